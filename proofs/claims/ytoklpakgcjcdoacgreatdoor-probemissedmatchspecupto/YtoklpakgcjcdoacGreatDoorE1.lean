/-
  Helping texts: plain functions and plain laws. No statement of the seed is proved here.
-/
import Derived.Test.YtoklpakgcjcdoacGreatDoorA1
import Derived.ChangeShapes
import Derived.ChangeSame
import Derived.Carry
import Derived.RowKit
import Derived.Test.YtoklpakgcjcdoacGreatDoorA2
set_option linter.unusedVariables false
set_option linter.unusedSimpArgs false
set_option linter.unusedSectionVars false
namespace Go.Gk
open Go IntKind
noncomputable section
structure aG where
 X0:Int
 Y0:Int
 X1:Int
 Y1:Int
 deriving DecidableEq,Inhabited
structure dW where
 X:Int
 Y:Int
 deriving DecidableEq,Inhabited
structure bU where
 At:dW
 eJ:Int
 cO:Int
 To:Int
 fJ:Bool
 deriving DecidableEq,Inhabited
structure cX where
 Part:eU
 eG:eU
 cM:Int
 At:dW
 deriving DecidableEq,Inhabited
structure gM where
 aL:Z (Z aG)
 cQ:Z aG
 aN:Z bU
 bO:Z cX
 deriving DecidableEq,Inhabited
structure eG where
 Part:eU
 eG:eU
 deriving DecidableEq,Inhabited
structure Test where
 A:eG
 B:eG
 Joined:Bool
 deriving DecidableEq,Inhabited
structure aA where
 Y0:Int
 Y1:Int
 Xs:Z Int
 deriving DecidableEq,Inhabited
structure aD where
 cM:Int
 Set:Z aA
 dY:Z aG
 deriving DecidableEq,Inhabited
structure bZ where
 fN:Z Int
 aN:Z Int
 fB:Z eG
 deriving DecidableEq,Inhabited
structure dZ where
 bU:Bool
 Number:Int
 deriving DecidableEq,Inhabited
structure bL where
 Open:Bool
 dZ:dZ
 A:Int
 B:Int
 deriving DecidableEq,Inhabited
structure we where
 A:Int
 B:Int
 iX:Int
 cO:dW
 To:dW
 deriving DecidableEq,Inhabited
structure cL where
 Ln:bL
 AW:Z Bool
 deriving DecidableEq,Inhabited
structure aI where
 from_:Int
 to:Int
 deriving DecidableEq,Inhabited
structure aQ where
 from_:Int
 to:Int
 kq:Z aI
 deriving DecidableEq,Inhabited
def xI(N:Nat)(p0 p1 p2:Int):aT Bool:=
 some (decide (p0>=p1)&&decide (p0<=p2))
def ni(N:Nat)(p0:Int):aT Bool:=
 (xI N p0 (-1000000) 1000000).bind λj=>some j
def pB(N:Nat)(p0:aG):aT Bool:=
 ((ni N p0.X0).bind λj=>bif j then((ni N p0.Y0).bind λo=>bif o then((ni N p0.X1).bind λaa=>bif aa then((ni N p0.Y1).bind λab=>some ab)else some false)else some false)else some false).bind λad=>some ad
def mN(N:Nat)(p0:Z aG):aT Int:=
 bif decide ((p0.length:Int)>2000)then some 2 else((vA p0.length (λ(o:Nat)(aa:Unit)=>((idx p0 (o:Int)).bind λj=>(pB N j).bind λab=>bif(!ab)then some (.rt 1)else(bif decide (j.X1<=j.X0)||decide (j.Y1<=j.Y0)then some (.rt 13)else some (.nx ())):aT (Fl Unit Int))) ()).bind λad=>ad.cs (λ(aa:Unit)=>some 0)<|λr=>some r)
def kO(N:Nat)(p0:Z aG):aT (Z aG):=
 (app 32 ([]:Z aG) p0).bind λj=>some j
def lI(N:Nat)(p0 p1:aG):aT Int:=
 some (wrap .i64<|p0.Y0 - p1.Y0)
def ji(N:Nat)(p0:Z Int):aT (Z Int):=
 bif decide ((p0.length:Int)<2)then some p0 else((iD (λ(o:Int)=>(bif decide (o<(p0.length:Int))then((idx p0 o).bind λab=>(idx p0<|wrap .i64<|o - 1).bind λad=>bif ab==ad then((vB p0 o (p0.length:Int)).bind λaj=>(iD (λ(j:Z Int×Int×Int)=>(bif decide (j.2.2<(((j.1.length - Int.toNat o):Nat):Int))then((Ll j.1 o j.2.2).bind λy7=>(Ll j.1 o<|wrap .i64<|j.2.2 - 1).bind λae=>(bif y7 != ae then((Ll j.1 o j.2.2).bind λaf=>(idx j.1 j.2.1).bind λak=>some (j.1.set (Int.toNat j.2.1) af,wrap .i64<|j.2.1+1))else some (j.1,j.2.1)).bind λaa=>some<|.nx (aa.1,aa.2,wrap .i64<|j.2.2+1))else(some<|.br (j.1,j.2.1,j.2.2)):aT (Fl (Z Int×Int×Int) Empty))) N (p0,o,1)).bind λag=>ag.cs (λ(j:Z Int×Int×Int)=>(vB j.1 j.2.1 (j.1.length:Int)).bind λal=>(vB (j.1.take (Int.toNat j.2.1)++List.replicate (j.1.length - Int.toNat j.2.1) (0:Int)) 0 j.2.1).bind λah=>some<|.rt ah)<|λr=>r.elim)else some (.nx<|wrap .i64<|o+1))else(some<|.br o):aT (Fl Int<|Z Int))) N 1).bind λai=>ai.cs (λ(o:Int)=>some p0)<|λr=>some r)
def rI(N:Nat)(p0:aG)(p1:Z Int)(p2:Int):aT Bool:=
 (idx p1 p2).bind λj=>some<|decide<|p0.Y1<=j
def n8(N:Nat)(p0:Z aG)(p1:aG->aT Bool):aT Int:=
 (vA p0.length (λ(j:Nat)(o:Unit)=>((idx p0 (j:Int)).bind λaa=>(p1 aa).bind λab=>bif ab then some (.rt (j:Int))else(some<|.nx ()):aT (Fl Unit Int))) ()).bind λad=>ad.cs (λ(o:Unit)=>some<|-1)<|λr=>some r
def mD(N:Nat)(p0:Z aG)(p1:aG->aT Bool):aT Int:=
 (vA p0.length (λ(j:Nat)(o:Unit)=>((idx p0 (j:Int)).bind λaa=>(p1 aa).bind λab=>bif ab then some (.rt (j:Int))else(some<|.nx ()):aT (Fl Unit Int))) ()).bind λad=>ad.cs (λ(o:Unit)=>some<|-1)<|λr=>some r
def jU(N:Nat)(p0:Z aG)(p1:aG->aT Bool):aT (Z aG):=
 (mD N p0 p1).bind λo=>bif o==(-1)then some p0 else((iD (λ(j:Z aG×Int×Int)=>(bif decide (j.2.2<(j.1.length:Int))then((idx j.1 j.2.2).bind λaa=>(p1 aa).bind λad=>(bif(!ad)then((idx j.1 j.2.1).bind λag=>some (j.1.set (Int.toNat j.2.1) aa,wrap .i64<|j.2.1+1))else some (j.1,j.2.1)).bind λab=>some<|.nx (ab.1,ab.2,wrap .i64<|j.2.2+1))else(some<|.br (j.1,j.2.1,j.2.2)):aT (Fl (Z aG×Int×Int) Empty))) N (p0,o,wrap .i64<|o+1)).bind λae=>ae.cs (λ(j:Z aG×Int×Int)=>(vB j.1 j.2.1 (j.1.length:Int)).bind λah=>(vB (j.1.take (Int.toNat j.2.1)++List.replicate (j.1.length - Int.toNat j.2.1) (⟨0,0,0,0⟩:aG)) 0 j.2.1).bind λaf=>some af)<|λr=>r.elim)
def jk(N:Nat)(p0 p1:aG):aT Int:=
 some (wrap .i64<|p0.X0 - p1.X0)
def kX(N:Nat)(p0:Z aG):aT (Z Int×Z aG):=
 (B9 (jk N) p0).bind λaa=>(kL aa.length (λ(ad:Nat)(j:Z Int)=>((idx aa (ad:Int)).bind λo=>(bif decide (wrap .i64 ((j.length:Int) - 1)>=0)then((idx j<|wrap .i64<|(j.length:Int) - 1).bind λae=>some<|decide<|o.X0<=ae)else some false).bind λaf=>(bif af then((idx j<|wrap .i64<|(j.length:Int) - 1).bind λab=>(idx j<|wrap .i64<|(j.length:Int) - 1).bind λai=>some<|j.set (Int.toNat<|wrap .i64<|(j.length:Int) - 1) (if ab<o.X1 then o.X1 else ab))else((app 8 j ([o.X0,o.X1]:Z Int)).bind λag=>some ag)).bind λah=>some ah:aT (Z Int))) ([]:Z Int)).bind λj=>some (j,aa)
def pC(N:Nat)(p0:Z Int)(p1:Z Int):aT Bool:=
 bif(p0.length:Int) != (p1.length:Int)then some false else((vA p0.length (λ(j:Nat)(o:Unit)=>((idx p0 (j:Int)).bind λaa=>(idx p1 (j:Int)).bind λab=>bif aa != ab then some (.rt false)else(some<|.nx ()):aT (Fl Unit Bool))) ()).bind λad=>ad.cs (λ(o:Unit)=>some true)<|λr=>some r)
def kE(N:Nat)(p0:Z aA)(p1:aA):aT (Z aA):=
 bif((p1.Xs.length:Int)==0)||decide (p1.Y1<=p1.Y0)then some p0 else((bif decide (wrap .i64 ((p0.length:Int) - 1)>=0)then((idx p0<|wrap .i64<|(p0.length:Int) - 1).bind λj=>bif j.Y1==p1.Y0 then((idx p0<|wrap .i64<|(p0.length:Int) - 1).bind λo=>(pC N o.Xs p1.Xs).bind λaa=>some aa)else some false)else some false).bind λab=>bif ab then((idx p0<|wrap .i64<|(p0.length:Int) - 1).bind λad=>some<|p0.set (Int.toNat<|wrap .i64<|(p0.length:Int) - 1)<|{ad with Y1:=p1.Y1})else((app 40 p0 ([p1]:Z aA)).bind λae=>some ae))
def jq(N:Nat)(p0:Z aG):aT (Z aA):=
 (kO N p0).bind λag=>(B9 (lI N) ag).bind λaa=>(kL aa.length (λ(ah:Nat)(ad:Z Int)=>((idx aa (ah:Int)).bind λae=>(app 8 ad ([ae.Y0,ae.Y1]:Z Int)).bind λai=>some ai:aT (Z Int))) ([]:Z Int)).bind λad=>(y6 ad).bind λaj=>(ji N aj).bind λab=>(iD (λ(j:Z aA×Z aG×Int×Int)=>(bif decide (wrap .i64 (j.2.2.2+1)<(ab.length:Int))then((jU N j.2.1<|λy0=>rI N y0 ab j.2.2.2).bind λak=>(iD (λ(o:Z aG×Int)=>((bif decide (o.2<(aa.length:Int))then((idx aa o.2).bind λal=>(idx ab j.2.2.2).bind λan=>some<|decide<|al.Y0<=an)else some false).bind λao=>bif ao then((idx aa o.2).bind λaq=>(app 32 o.1 ([aq]:Z aG)).bind λar=>some<|.nx (ar,wrap .i64<|o.2+1))else(some<|.br (o.1,o.2)):aT (Fl (Z aG×Int) Empty))) N (ak,j.2.2.1)).bind λau=>au.cs (λ(o:Z aG×Int)=>(idx ab j.2.2.2).bind λav=>(idx ab<|wrap .i64<|j.2.2.2+1).bind λaw=>(kX N o.1).bind λaf=>(kE N j.1 (⟨av,aw,af.1⟩:aA)).bind λax=>some<|.nx (ax,af.2,o.2,wrap .i64<|j.2.2.2+1))<|λr=>r.elim)else(some<|.br (j.1,j.2.1,j.2.2.1,j.2.2.2)):aT (Fl (Z aA×Z aG×Int×Int) Empty))) N (([]:Z aA),([]:Z aG),0,0)).bind λay=>ay.cs (λ(j:Z aA×Z aG×Int×Int)=>some j.1)<|λr=>r.elim
def kY(N:Nat)(p0:Z aA):aT (Z aG):=
 (kL p0.length (λ(ab:Nat)(aa:Z aG)=>((idx p0 (ab:Int)).bind λo=>(iD (λ(j:Z aG×Int)=>(bif decide (j.2<(o.Xs.length:Int))then((idx o.Xs j.2).bind λad=>(idx o.Xs<|wrap .i64<|j.2+1).bind λae=>(app 32 j.1 ([(⟨ad,o.Y0,ae,o.Y1⟩:aG)]:Z aG)).bind λaf=>some<|.nx (af,wrap .i64<|j.2+2))else(some<|.br (j.1,j.2)):aT (Fl (Z aG×Int) Empty))) N (aa,0)).bind λag=>ag.cs (λ(j:Z aG×Int)=>some j.1) (λr=>r.elim):aT (Z aG))) ([]:Z aG)).bind λaa=>some aa
def ml(N:Nat)(p0:Z aG)(p1:Z aG):aT Bool:=
 bif(p0.length:Int) != (p1.length:Int)then some false else((vA p0.length (λ(j:Nat)(o:Unit)=>((idx p0 (j:Int)).bind λaa=>(idx p1 (j:Int)).bind λab=>bif(!(decide<|aa=ab))then some (.rt false)else(some<|.nx ()):aT (Fl Unit Bool))) ()).bind λad=>ad.cs (λ(o:Unit)=>some true)<|λr=>some r)
def kP(N:Nat)(p0:Z aG):aT Int:=
 (mN N p0).bind λab=>bif ab != 0 then some ab else((iD (λ(j:Int)=>(bif decide (j<(p0.length:Int))then((idx p0<|wrap .i64<|j - 1).bind λo=>(idx p0 j).bind λaa=>bif decide (aa.Y0<o.Y0)||((aa.Y0==o.Y0)&&decide (aa.X0<=o.X0))then some (.rt 8)else some (.nx<|wrap .i64<|j+1))else(some<|.br j):aT (Fl Int Int))) N 1).bind λad=>ad.cs (λ(j:Int)=>(jq N p0).bind λae=>(kY N ae).bind λaf=>(ml N af p0).bind λag=>bif(!ag)then some 3 else some 0)<|λr=>some r)
def jQ(N:Nat)(p0 p1 p2:Int):aT Bool:=
 some (decide (p0>=p1)&&decide (p0<=p2))
def ly(N:Nat)(p0:dW):aT Bool:=
 ((ni N p0.X).bind λj=>bif j then((ni N p0.Y).bind λo=>some o)else some false).bind λaa=>some aa
def iC(N:Nat)(p0:bU):aT aG:=
 some (⟨wrap .i64<|p0.At.X -(wrap .i64<|Int.tdiv p0.eJ 2),wrap .i64<|p0.At.Y -(wrap .i64<|Int.tdiv p0.eJ 2),wrap .i64<|wrap .i64 (p0.At.X -(wrap .i64<|Int.tdiv p0.eJ 2))+p0.eJ,wrap .i64<|wrap .i64 (p0.At.Y -(wrap .i64<|Int.tdiv p0.eJ 2))+p0.eJ⟩:aG)
def pD(N:Nat)(p0:Z aA):aT aG:=
 (idx p0 0).bind λad=>(idx ad.Xs 0).bind λae=>(idx p0 0).bind λaf=>(idx p0 0).bind λag=>(idx ag.Xs 1).bind λah=>(idx p0<|wrap .i64<|(p0.length:Int) - 1).bind λai=>(kL p0.length (λ(aj:Nat)(j:aG)=>((idx p0 (aj:Int)).bind λo=>(idx o.Xs 0).bind λaa=>(idx o.Xs<|wrap .i64<|(o.Xs.length:Int) - 1).bind λab=>some ({{j with X0:=(if aa<j.X0 then aa else j.X0)}with X1:=(if j.X1<ab then ab else j.X1)}):aT aG)) (⟨ae,af.Y0,ah,ai.Y1⟩:aG)).bind λj=>some j
def oN(N:Nat)(p0:Z aA):aT Bool:=
 (bif(p0.length:Int)==0 then some true else((pD N p0).bind λj=>(pB N j).bind λo=>some o)).bind λaa=>some aa
def nV(N:Nat)(p0:bU):aT (aG×Int):=
 ((jQ N p0.eJ 1 10000).bind λo=>bif(!o)then some true else((ly N p0.At).bind λaa=>some<|!aa)).bind λab=>bif ab then some ((⟨0,0,0,0⟩:aG),1)else((iC N p0).bind λj=>(jq N ([j]:Z aG)).bind λad=>(oN N ad).bind λae=>bif(!ae)then some ((⟨0,0,0,0⟩:aG),1)else some (j,0))
def mm(N:Nat)(p0:gM):aT Int:=
 bif decide ((p0.aN.length:Int)>500)then some 2 else((vA p0.aN.length (λ(aa:Nat)(ab:Unit)=>((idx p0.aN (aa:Int)).bind λj=>(nV N j).bind λo=>bif o.2 != 0 then some (.rt o.2)else(((jQ N j.cO 0<|wrap .i64<|(p0.aL.length:Int) - 1).bind λad=>bif(!ad)then some true else((jQ N j.To j.cO<|wrap .i64<|(p0.aL.length:Int) - 1).bind λae=>some<|!ae)).bind λaf=>bif af then some (.rt 1)else some (.nx ())):aT (Fl Unit Int))) ()).bind λag=>ag.cs (λ(ab:Unit)=>some 0)<|λr=>some r)
def kc(N:Nat)(p0:eU)(p1:Int):aT Int:=
 some (Lib.indexByte p0.dV (Int.toNat p1).toUInt8)
def mn(N:Nat)(p0 p1:eU):aT Int:=
 bif((p1.dV.length:Int)==0)||p1.wF p0 then some 0 else(bif(p1.dV.length:Int)==1 then((Le p1 0).bind λj=>(kc N p0 (j.toNat:Int)).bind λo=>some o)else(bif decide ((p1.dV.length:Int)>=(p0.dV.length:Int))then some (-1)else none))
def nW(N:Nat)(p0 p1:eU):aT Int:=
 (mn N p0 p1).bind λj=>some j
def qg(N:Nat)(p0 p1:eU):aT Int:=
 bif(p1.dV.length:Int)==0 then none else(bif(p1.dV.length:Int)==1 then((Le p1 0).bind λaa=>some ((Lib.countByte p0.dV (Int.toNat (aa.toNat:Int)).toUInt8:Nat):Int))else((iD (λ(j:eU×Int)=>((nW N j.1 p1).bind λo=>bif o==(-1)then some (.rt j.2)else((Bn j.1 (wrap .i64<|o+(p1.dV.length:Int)) (j.1.dV.length:Int)).bind λab=>some<|.nx (ab,wrap .i64<|j.2+1)):aT (Fl (eU×Int) Int))) N (p0,0)).bind λad=>ad.cs (λ(j:eU×Int)=>some 0)<|λr=>some r))
def pE(N:Nat)(p0 p1:eU)(p2 p3:Int):aT (Z eU):=
 bif p3==0 then some ([]:Z eU)else(bif p1.wF (⟨[]⟩)then none else((bif p3<0 then((qg N p0 p1).bind λab=>some<|wrap .i64<|ab+1)else some p3).bind λo=>(mk 16 (⟨[]⟩:eU) (if wrap .i64 ((p0.dV.length:Int)+1)<o then wrap .i64 ((p0.dV.length:Int)+1)else o)).bind λad=>(iD (λ(j:eU×Z eU×Int)=>(bif decide (j.2.2< wrap .i64 ((if wrap .i64 ((p0.dV.length:Int)+1)<o then wrap .i64 ((p0.dV.length:Int)+1)else o) - 1))then((nW N j.1 p1).bind λaa=>bif aa<0 then some (.br (j.1,j.2.1,j.2.2))else((Bn j.1 0<|wrap .i64<|aa+p2).bind λae=>(idx j.2.1 j.2.2).bind λai=>(Bn j.1 (wrap .i64<|aa+(p1.dV.length:Int)) (j.1.dV.length:Int)).bind λaf=>some<|.nx (af,j.2.1.set (Int.toNat j.2.2) ae,wrap .i64<|j.2.2+1)))else(some<|.br (j.1,j.2.1,j.2.2)):aT (Fl (eU×Z eU×Int) Empty))) N (p0,ad,0)).bind λag=>ag.cs (λ(j:eU×Z eU×Int)=>(idx j.2.1 j.2.2).bind λaj=>(vB (j.2.1.set (Int.toNat j.2.2) j.1) 0<|wrap .i64<|j.2.2+1).bind λah=>some ah)<|λr=>r.elim))
def nX(N:Nat)(p0 p1:eU):aT (Z eU):=
 (pE N p0 p1 0<|-1).bind λj=>some j
def mO(N:Nat)(p0:Z eU)(p1:eU->aT Bool):aT Int:=
 (vA p0.length (λ(j:Nat)(o:Unit)=>((idx p0 (j:Int)).bind λaa=>(p1 aa).bind λab=>bif ab then some (.rt (j:Int))else(some<|.nx ()):aT (Fl Unit Int))) ()).bind λad=>ad.cs (λ(o:Unit)=>some<|-1)<|λr=>some r
def jV(N:Nat)(p0:Z eU)(p1:eU->aT Bool):aT Bool:=
 (mO N p0 p1).bind λj=>some<|decide<|j>=0
def iS(N:Nat)(p0:eU)(p1:Int):aT Int:=
 (kc N p0 p1).bind λj=>some j
def kF(N:Nat)(p0:eU):aT Bool:=
 (vA p0.dV.length (λ(o:Nat)(aa:Unit)=>((Le p0 (o:Int)).bind λj=>(bif((decide ((j.toNat:Int)<65)||decide ((j.toNat:Int)>90))&&(decide ((j.toNat:Int)<97)||decide ((j.toNat:Int)>122)))&&(decide ((j.toNat:Int)<48)||decide ((j.toNat:Int)>57))then((iS N (⟨[95,43,45,35]⟩) (j.toNat:Int)).bind λab=>some<|decide<|ab<0)else some false).bind λad=>bif ad then some (.rt false)else(some<|.nx ()):aT (Fl Unit Bool))) ()).bind λae=>ae.cs (λ(aa:Unit)=>some<|decide ((p0.dV.length:Int)>=1)&&decide ((p0.dV.length:Int)<=40))<|λr=>some r
def jW(N:Nat)(p0:eU):aT Bool:=
 (kF N p0).bind λj=>some<|!j
def oO(N:Nat)(p0:eU):aT Bool:=
 (bif decide ((p0.dV.length:Int)<=200)then((nX N p0<|⟨[47]⟩).bind λj=>(jV N j<|jW N).bind λo=>some<|!o)else some false).bind λaa=>some aa
def nj(N:Nat)(p0:cX):aT eG:=
 some (⟨p0.Part,p0.eG⟩:eG)
def n9(N:Nat)(p0 p1:eU):aT Int:=
 some (Lib.compareBytes p0.dV p1.dV)
def qF(N:Nat)(p0 p1:eU):aT Int:=
 (n9 N p0 p1).bind λj=>some j
def fC(N:Nat)(p0 p1:eG):aT Int:=
 (qF N p0.Part p1.Part).bind λj=>bif j != 0 then some j else((qF N p0.eG p1.eG).bind λo=>some o)
def mo(N:Nat)(p0:gM):aT Int:=
 bif decide ((p0.bO.length:Int)>1000)then some 2 else((vA p0.bO.length (λ(o:Nat)(aa:Unit)=>((idx p0.bO (o:Int)).bind λj=>((oO N j.Part).bind λab=>bif(!ab)then some true else((kF N j.eG).bind λad=>some<|!ad)).bind λae=>bif ae then some (.rt 5)else(((jQ N j.cM 0<|wrap .i64<|(p0.aL.length:Int) - 1).bind λaf=>bif(!af)then some true else((ly N j.At).bind λag=>some<|!ag)).bind λah=>bif ah then some (.rt 1)else((bif decide ((o:Int)>0)then((idx p0.bO<|wrap .i64<|(o:Int) - 1).bind λai=>(nj N j).bind λaj=>(nj N ai).bind λak=>(fC N aj ak).bind λal=>some<|decide<|al<=0)else some false).bind λan=>bif an then some (.rt 8)else some (.nx ()))):aT (Fl Unit Int))) ()).bind λao=>ao.cs (λ(aa:Unit)=>some 0)<|λr=>some r)
def lz(N:Nat)(p0 p1:Int)(p2 p3:Int):aT Int:=
 some (if(if 0<(wrap .i64<|wrap .i64 (p2 - p1)+1)then wrap .i64 (wrap .i64 (p2 - p1)+1)else 0)<(wrap .i64<|wrap .i64 (p0 - p3)+1)then wrap .i64 (wrap .i64 (p0 - p3)+1)else(if 0<(wrap .i64<|wrap .i64 (p2 - p1)+1)then wrap .i64 (wrap .i64 (p2 - p1)+1)else 0))
def mP(N:Nat)(p0 p1:aG):aT Int:=
 (lz N p0.X0 p0.X1 p1.X0 p1.X1).bind λj=>(lz N p0.Y0 p0.Y1 p1.Y0 p1.Y1).bind λo=>some (if j<o then o else j)
def mQ(N:Nat)(p0:bU)(p1:Int):aT Bool:=
 some (decide (p0.cO<=p1)&&decide (p1<=p0.To))
def pF(N:Nat)(p0:Z aA)(p1 p2:Int):aT (Z Int×Int):=
 bif(p0.length:Int)==0 then some (([]:Z Int),p2)else((idx p0 0).bind λaa=>bif p1<aa.Y0 then((idx p0 0).bind λj=>some (([]:Z Int),(if j.Y0<p2 then j.Y0 else p2)))else((idx p0 0).bind λab=>(idx p0 0).bind λo=>some (ab.Xs,(if o.Y1<p2 then o.Y1 else p2))))
def uO(N:Nat)(p0:Z Int)(p1:Z Int)(p2:Bool->Bool->aT Bool):aT (Z Int):=
 (iD (λ(j:Z Int×Z Int×Z Int×Bool×Bool×Bool)=>((bif decide ((j.1.length:Int)>0)then some true else some (decide<|(j.2.1.length:Int)>0)).bind λaf=>bif af then((bif(j.2.1.length:Int)==0 then some true else(bif decide ((j.1.length:Int)>0)then((idx j.1 0).bind λag=>(idx j.2.1 0).bind λah=>some<|decide<|ag<=ah)else some false)).bind λai=>(bif ai then((idx j.1 0).bind λaj=>some aj)else((idx j.2.1 0).bind λak=>some ak)).bind λo=>(bif decide ((j.1.length:Int)>0)then((idx j.1 0).bind λal=>some<|al==o)else some false).bind λan=>(bif an then((vB j.1 1 (j.1.length:Int)).bind λao=>some (ao,(!j.2.2.2.1)))else some (j.1,j.2.2.2.1)).bind λaa=>(bif decide ((j.2.1.length:Int)>0)then((idx j.2.1 0).bind λaq=>some<|aq==o)else some false).bind λar=>(bif ar then((vB j.2.1 1 (j.2.1.length:Int)).bind λau=>some (au,(!j.2.2.2.2.1)))else some (j.2.1,j.2.2.2.2.1)).bind λab=>(p2 aa.2 ab.2).bind λad=>(bif ad != j.2.2.2.2.2 then((app 8 j.2.2.1 ([o]:Z Int)).bind λav=>some (av,ad))else some (j.2.2.1,j.2.2.2.2.2)).bind λae=>some<|.nx (aa.1,ab.1,ae.1,aa.2,ab.2,ae.2))else(some<|.br (j.1,j.2.1,j.2.2.1,j.2.2.2.1,j.2.2.2.2.1,j.2.2.2.2.2)):aT (Fl (Z Int×Z Int×Z Int×Bool×Bool×Bool) Empty))) N (p0,p1,([]:Z Int),false,false,false)).bind λaw=>aw.cs (λ(j:Z Int×Z Int×Z Int×Bool×Bool×Bool)=>some j.2.2.1)<|λr=>r.elim
def tm(N:Nat)(p0:Z aA)(p1:Z aA)(p2:Bool->Bool->aT Bool):aT (Z aA):=
 bif wrap .i64 ((p0.length:Int)+(p1.length:Int))==0 then some ([]:Z aA)else((kL (([p0,p1]:Z (Z aA)).length) (λ(ah:Nat)(o:Int×Int)=>((idx ([p0,p1]:Z (Z aA)) (ah:Int)).bind λad=>(bif decide ((ad.length:Int)>0)then((bif(ah:Int)==0 then some true else some ((p0.length:Int)==0)).bind λal=>(bif al then((idx ad 0).bind λan=>(idx ad<|wrap .i64<|(ad.length:Int) - 1).bind λao=>some (an.Y0,ao.Y1))else some (o.1,o.2)).bind λag=>(idx ad 0).bind λai=>(idx ad<|wrap .i64<|(ad.length:Int) - 1).bind λaj=>some ((if ai.Y0<ag.1 then ai.Y0 else ag.1),(if ag.2<aj.Y1 then aj.Y1 else ag.2)))else some (o.1,o.2)).bind λak=>some (ak.1,ak.2):aT (Int×Int))) (0,0)).bind λo=>(iD (λ(j:Z aA×Z aA×Z aA×Int)=>(bif j.2.2.2<o.2 then((iD (λ(aa:Z aA)=>((bif decide ((aa.length:Int)>0)then((idx aa 0).bind λaq=>some<|decide<|aq.Y1<=j.2.2.2)else some false).bind λar=>bif ar then((vB aa 1 (aa.length:Int)).bind λau=>some<|.nx au)else(some<|.br aa):aT (Fl (Z aA) Empty))) N j.1).bind λav=>av.cs (λ(aa:Z aA)=>(iD (λ(ab:Z aA)=>((bif decide ((ab.length:Int)>0)then((idx ab 0).bind λaw=>some<|decide<|aw.Y1<=j.2.2.2)else some false).bind λax=>bif ax then((vB ab 1 (ab.length:Int)).bind λay=>some<|.nx ay)else(some<|.br ab):aT (Fl (Z aA) Empty))) N j.2.1).bind λaz=>az.cs (λ(ab:Z aA)=>(pF N aa j.2.2.2 o.2).bind λae=>(pF N ab j.2.2.2 o.2).bind λaf=>(uO N ae.1 af.1 p2).bind λa0=>(kE N j.2.2.1 (⟨j.2.2.2,(if af.2<ae.2 then af.2 else ae.2),a0⟩:aA)).bind λa1=>some<|.nx (aa,ab,a1,(if af.2<ae.2 then af.2 else ae.2)))<|λr=>r.elim)<|λr=>r.elim)else(some<|.br (j.1,j.2.1,j.2.2.1,j.2.2.2)):aT (Fl (Z aA×Z aA×Z aA×Int) Empty))) N (p0,p1,([]:Z aA),o.1)).bind λa2=>a2.cs (λ(j:Z aA×Z aA×Z aA×Int)=>some j.2.2.1)<|λr=>r.elim)
def rJ(N:Nat)(p0 p1:Bool):aT Bool:=
 some (p0&&(!p1))
def mR(N:Nat)(p0:Z aA)(p1:Z aA):aT (Z aA):=
 (tm N p0 p1<|rJ N).bind λj=>some j
def oQ(N:Nat)(p0:Z aA):aT Int:=
 (kL p0.length (λ(o:Nat)(j:Int)=>((idx p0 (o:Int)).bind λaa=>some (wrap .i64<|j+ wrap .i64 (Int.tdiv (aa.Xs.length:Int) 2)):aT Int)) 0).bind λj=>some j
def gD(N:Nat)(p0:Int)(p1_0:Z Int):aT (Int×Z Int):=
 (iD (λ(j:Int×Z Int)=>((idx j.2 j.1).bind λaa=>bif aa != j.1 then((idx j.2 j.1).bind λab=>(idx j.2 ab).bind λo=>(idx j.2 j.1).bind λaf=>(idx (j.2.set (Int.toNat j.1) o) j.1).bind λad=>some<|.nx (ad,j.2.set (Int.toNat j.1) o))else(some<|.br (j.1,j.2)):aT (Fl (Int×Z Int) Empty))) N (p0,p1_0)).bind λae=>ae.cs (λ(j:Int×Z Int)=>some (j.1,j.2))<|λr=>r.elim
def nJ(N:Nat)(p0:Z aA):aT (Z<|Z aA):=
 (kY N p0).bind λab=>(mk 8 (0:Int) (ab.length:Int)).bind λan=>(kL an.length (λ(ai:Nat)(ag:Z Int)=>((idx ag (ai:Int)).bind λbd=>some (ag.set (Int.toNat (ai:Int)) (ai:Int)):aT (Z Int))) an).bind λag=>(kL p0.length (λ(aj:Nat)(aa:Z Int×Int×Int)=>((idx p0 (aj:Int)).bind λak=>(bif decide ((aj:Int)>0)then((idx p0<|wrap .i64<|(aj:Int) - 1).bind λar=>some<|ar.Y1==ak.Y0)else some false).bind λau=>(bif au then((iD (λ(j:Z Int×Int×Int)=>(bif decide (j.2.1<aa.2.1)&&decide (j.2.2< wrap .i64 (aa.2.1+ wrap .i64 (Int.tdiv (ak.Xs.length:Int) 2)))then(((idx ab j.2.1).bind λav=>(idx ab j.2.2).bind λaw=>bif av.X0<aw.X1 then((idx ab j.2.2).bind λax=>(idx ab j.2.1).bind λay=>some<|decide<|ax.X0<ay.X1)else some false).bind λaz=>(bif az then((gD N j.2.1 j.1).bind λae=>(gD N j.2.2 ae.2).bind λad=>(idx ad.2 (if ae.1<ad.1 then ad.1 else ae.1)).bind λbf=>some<|ad.2.set (Int.toNat (if ae.1<ad.1 then ad.1 else ae.1)) (if ad.1<ae.1 then ad.1 else ae.1))else some j.1).bind λa0=>(idx ab j.2.1).bind λa1=>(idx ab j.2.2).bind λa2=>(bif a1.X1<a2.X1 then some (wrap .i64<|j.2.1+1,j.2.2)else some (j.2.1,wrap .i64<|j.2.2+1)).bind λao=>some<|.nx (a0,ao.1,ao.2))else(some<|.br (j.1,j.2.1,j.2.2)):aT (Fl (Z Int×Int×Int) Empty))) N (aa.1,aa.2.2,aa.2.1)).bind λa3=>a3.cs (λ(j:Z Int×Int×Int)=>some j.1)<|λr=>r.elim)else some aa.1).bind λa4=>some (a4,wrap .i64<|aa.2.1+ wrap .i64 (Int.tdiv (ak.Xs.length:Int) 2),aa.2.1):aT (Z Int×Int×Int))) (ag,0,0)).bind λaa=>(kL ab.length (λ(aq:Nat)(o:Z Int×Z (Int×Int)×Z (Z aG))=>((idx ab (aq:Int)).bind λa5=>(gD N (aq:Int) o.1).bind λah=>(bif(!(mC o.2.1 ah.1))then((app 24 o.2.2 [([]:Z aG)]).bind λa6=>some (tj o.2.1 ah.1 (o.2.2.length:Int),a6,(o.2.2.length:Int)))else some (o.2.1,o.2.2,fU o.2.1 ah.1 (0:Int))).bind λaf=>(idx af.2.1 af.2.2).bind λa7=>(app 32 a7 ([a5]:Z aG)).bind λa8=>(idx af.2.1 af.2.2).bind λbg=>some (ah.2,af.1,af.2.1.set (Int.toNat af.2.2) a8):aT (Z Int×Z (Int×Int)×Z (Z aG)))) (aa.1,([]:Z (Int×Int)),([]:Z (Z aG)))).bind λo=>(kL o.2.2.length (λ(a9:Nat)(al:Z (Z aA))=>((idx o.2.2 (a9:Int)).bind λba=>(jq N ba).bind λbb=>(app 24 al ([bb]:Z (Z aA))).bind λbc=>some bc:aT (Z<|Z aA))) ([]:Z (Z aA))).bind λal=>some al
def lJ(N:Nat)(p0_0:Z (Z aG))(p0_2:Z bU)(p0_4:Z (Z aA))(p0_5:Z aD):aT (Bool×Z (Z aA)×Z aD):=
 (kL p0_0.length (λ(aa:Nat)(j:Z (Z aA)×Z aD×Bool)=>((idx p0_0 (aa:Int)).bind λai=>(kL p0_2.length (λ(aj:Nat)(o:Z aG)=>((idx p0_2 (aj:Int)).bind λaf=>(mQ N af (aa:Int)).bind λak=>(bif ak then((iC N af).bind λal=>(app 32 o ([al]:Z aG)).bind λan=>some an)else some o).bind λao=>some ao:aT (Z aG))) ([]:Z aG)).bind λo=>(jq N ai).bind λaq=>(jq N o).bind λar=>(mR N aq ar).bind λab=>(bif j.2.2 then((oQ N ab).bind λau=>some (decide<|au<=2000,ab))else some (false,ab)).bind λad=>(app 24 j.1 ([ad.2]:Z (Z aA))).bind λav=>(nJ N ad.2).bind λag=>(kL ag.length (λ(aw:Nat)(ae:Z aD)=>((idx ag (aw:Int)).bind λah=>(kY N ah).bind λax=>(app 56 ae ([(⟨(aa:Int),ah,ax⟩:aD)]:Z aD)).bind λay=>some ay:aT (Z aD))) j.2.1).bind λae=>some (av,ae,ad.1):aT (Z (Z aA)×Z aD×Bool))) (p0_4,p0_5,true)).bind λj=>(bif j.2.2 then some (decide<|(j.2.1.length:Int)<=2000)else some false).bind λaz=>some (az,j.1,j.2.1)
def wg(N:Nat)(p0 p1:aG):aT Bool:=
 some (((decide (p0.X0<p1.X1)&&decide (p1.X0<p0.X1))&&((p0.Y1==p1.Y0)||(p1.Y1==p0.Y0)))||((decide (p0.Y0<p1.Y1)&&decide (p1.Y0<p0.Y1))&&((p0.X1==p1.X0)||(p1.X1==p0.X0))))
def lW(N:Nat)(p0:aG)(p1:bU):aT Bool:=
 (iC N p1).bind λj=>(wg N p0 j).bind λo=>some o
def iY(N:Nat)(p0:Z aG)(p1:aG->aT Bool):aT Bool:=
 (n8 N p0 p1).bind λj=>some<|decide<|j>=0
def lK(N:Nat)(p0_2:Z bU)(p0_5:Z aD)(p0_6:Z (Z Int)):aT (Z<|Z Int):=
 (kL p0_2.length (λ(ae:Nat)(o:Z (Z Int))=>((idx p0_2 (ae:Int)).bind λaa=>(kL p0_5.length (λ(ab:Nat)(j:Z Int)=>((idx p0_5 (ab:Int)).bind λad=>(bif aa.fJ then((mQ N aa ad.cM).bind λaf=>bif af then((iY N ad.dY<|λy0=>lW N y0 aa).bind λag=>some ag)else some false)else some false).bind λah=>(bif ah then((app 8 j ([(ab:Int)]:Z Int)).bind λai=>some ai)else some j).bind λaj=>some aj:aT (Z Int))) ([]:Z Int)).bind λj=>(app 24 o ([j]:Z (Z Int))).bind λak=>some ak:aT (Z<|Z Int))) p0_6).bind λo=>some o
def lC(N:Nat)(p0:Int):aT (Z Int):=
 (mk 8 (0:Int) p0).bind λaa=>(kL aa.length (λ(o:Nat)(j:Z Int)=>((idx j (o:Int)).bind λab=>some (j.set (Int.toNat (o:Int)) (o:Int)):aT (Z Int))) aa).bind λj=>some j
def fO(N:Nat)(p0_0:Z Int)(p1:Int):aT (Int×Z Int):=
 (iD (λ(j:Z Int×Int)=>((idx j.1 j.2).bind λaa=>bif aa != j.2 then((idx j.1 j.2).bind λab=>(idx j.1 ab).bind λo=>(idx j.1 j.2).bind λaf=>(idx (j.1.set (Int.toNat j.2) o) j.2).bind λad=>some<|.nx (j.1.set (Int.toNat j.2) o,ad))else(some<|.br (j.1,j.2)):aT (Fl (Z Int×Int) Empty))) N (p0_0,p1)).bind λae=>ae.cs (λ(j:Z Int×Int)=>some (j.2,j.1))<|λr=>r.elim
def fV(N:Nat)(p0_0:Z Int)(p1 p2:Int):aT (Z Int):=
 (fO N p0_0 p1).bind λo=>(fO N o.2 p2).bind λj=>(idx j.2 (if o.1<j.1 then j.1 else o.1)).bind λaa=>some<|j.2.set (Int.toNat (if o.1<j.1 then j.1 else o.1)) (if j.1<o.1 then j.1 else o.1)
def lL(N:Nat)(p0_0:Z Int):aT (Z (Z Int)×Z Int):=
 (kL p0_0.length (λ(ab:Nat)(j:Z Int×Z (Z Int)×Z (Int×Int))=>((fO N j.1 (ab:Int)).bind λaa=>(bif aa.1==(ab:Int)then((app 24 j.2.1 [([]:Z Int)]).bind λad=>some (ad,tj j.2.2 (ab:Int) (j.2.1.length:Int)))else some (j.2.1,j.2.2)).bind λo=>(idx o.1<|fU o.2 aa.1 (0:Int)).bind λae=>(app 8 ae ([(ab:Int)]:Z Int)).bind λaf=>(idx o.1<|fU o.2 aa.1 (0:Int)).bind λag=>some (aa.2,o.1.set (Int.toNat<|fU o.2 aa.1 (0:Int)) af,o.2):aT (Z Int×Z (Z Int)×Z (Int×Int)))) (p0_0,([]:Z (Z Int)),([]:Z (Int×Int)))).bind λj=>some (j.2.1,j.1)
def nk(N:Nat)(p0:aG)(p1:dW):aT Bool:=
 (bif p1.X>=p0.X0 then(bif p1.X<p0.X1 then(bif p1.Y>=p0.Y0 then some (decide<|p1.Y<p0.Y1)else some false)else some false)else some false).bind λj=>some j
def ma(N:Nat)(p0:Z aG)(p1:dW):aT Bool:=
 (iY N p0<|λy0=>nk N y0 p1).bind λj=>some j
def lM(N:Nat)(p0_2:Z bU)(p0_5:Z aD)(p1:cX):aT (dZ×Bool):=
 (vA p0_2.length (λ(o:Nat)(ad:Unit)=>((idx p0_2 (o:Int)).bind λj=>(bif j.fJ then((mQ N j p1.cM).bind λae=>bif ae then((iC N j).bind λaf=>(ma N ([af]:Z aG) p1.At).bind λag=>some ag)else some false)else some false).bind λah=>bif ah then some (.rt ((⟨true,(o:Int)⟩:dZ),true))else(some<|.nx ()):aT (Fl Unit<|dZ×Bool))) ()).bind λai=>ai.cs (λ(ad:Unit)=>(vA p0_5.length (λ(aa:Nat)(aj:Unit)=>((idx p0_5 (aa:Int)).bind λab=>(bif ab.cM==p1.cM then((ma N ab.dY p1.At).bind λDd=>some Dd)else some false).bind λak=>bif ak then some (.rt ((⟨false,(aa:Int)⟩:dZ),true))else(some<|.nx ()):aT (Fl Unit<|dZ×Bool))) ()).bind λal=>al.cs (λ(aj:Unit)=>some ((⟨false,0⟩:dZ),false))<|λr=>some r)<|λr=>some r
def jr(N:Nat)(p0_8:Z Int)(p0_9:Z Int)(p1:dZ):aT Int:=
 bif p1.bU then((idx p0_9 p1.Number).bind λj=>some j)else((idx p0_8 p1.Number).bind λo=>some o)
def il(N:Nat)(p0_2:Z bU)(p0_3:Z cX)(p0_5:Z aD)(p0_6:Z (Z Int))(p0_8:Z Int)(p0_9:Z Int)(p0_10:Z Int)(p0_11:Z dZ):aT (Z bZ×Z Int×Z Int×Z Int×Z dZ):=
 (lC N<|wrap .i64<|(p0_5.length:Int)+(p0_2.length:Int)).bind λar=>(kL p0_6.length (λ(ai:Nat)(af:Z Int)=>((idx p0_6 (ai:Int)).bind λaj=>(kL aj.length (λ(au:Nat)(ag:Z Int)=>((idx aj (au:Int)).bind λav=>(fV N ag av<|wrap .i64<|(p0_5.length:Int)+(ai:Int)).bind λaw=>some aw:aT (Z Int))) af).bind λag=>some ag:aT (Z Int))) ar).bind λaf=>(mk 8 (0:Int) (p0_5.length:Int)).bind λax=>(mk 8 (0:Int) (p0_2.length:Int)).bind λay=>(lL N af).bind λak=>(kL ak.1.length (λ(az:Nat)(aa:Z bZ×Z Int×Z Int)=>((idx ak.1 (az:Int)).bind λal=>(kL al.length (λ(a0:Nat)(j:Z Int×Z Int×Z Int×Z Int)=>((idx al (a0:Int)).bind λab=>(bif decide (ab<(p0_5.length:Int))then((idx j.1 ab).bind λbd=>(app 8 j.2.2.1 ([ab]:Z Int)).bind λa1=>some (j.1.set (Int.toNat ab) (aa.1.length:Int),j.2.1,a1,j.2.2.2))else((idx p0_2<|wrap .i64<|ab -(p0_5.length:Int)).bind λa2=>(bif a2.fJ then((idx j.2.1<|wrap .i64<|ab -(p0_5.length:Int)).bind λbf=>(app 8 j.2.2.2 ([wrap .i64<|ab -(p0_5.length:Int)]:Z Int)).bind λa3=>some (j.2.1.set (Int.toNat<|wrap .i64<|ab -(p0_5.length:Int)) (aa.1.length:Int),a3))else((idx j.2.1<|wrap .i64<|ab -(p0_5.length:Int)).bind λbg=>some (j.2.1.set (Int.toNat<|wrap .i64<|ab -(p0_5.length:Int))<|-1,j.2.2.2))).bind λan=>some (j.1,an.1,j.2.2.1,an.2))).bind λad=>some (ad.1,ad.2.1,ad.2.2.1,ad.2.2.2):aT (Z Int×Z Int×Z Int×Z Int))) (aa.2.1,aa.2.2,([]:Z Int),([]:Z Int))).bind λj=>(bif decide (wrap .i64 ((j.2.2.1.length:Int)+(j.2.2.2.length:Int))>0)then((app 72 aa.1 [(⟨j.2.2.1,j.2.2.2,([]:Z eG)⟩:bZ)]).bind λa4=>some a4)else some aa.1).bind λa5=>some (a5,j.1,j.2.1):aT (Z bZ×Z Int×Z Int))) (([]:Z bZ),ax,ay)).bind λaa=>(kL p0_3.length (λ(a6:Nat)(o:Z bZ×Z Int×Z Int×Z Int×Z dZ)=>((idx p0_3 (a6:Int)).bind λao=>(lM N p0_2 p0_5 ao).bind λah=>(bif ah.2 then((jr N o.2.1 o.2.2.1 ah.1).bind λae=>(idx o.1 ae).bind λa7=>(nj N ao).bind λa8=>(app 32 a7.fB ([a8]:Z eG)).bind λa9=>(idx o.1 ae).bind λba=>some (o.1.set (Int.toNat ae) {ba with fB:=a9},ae))else some (o.1,(-1))).bind λaq=>(app 8 o.2.2.2.1 ([aq.2]:Z Int)).bind λbb=>(app 16 o.2.2.2.2 ([ah.1]:Z dZ)).bind λbc=>some (aq.1,o.2.1,o.2.2.1,bb,bc):aT (Z bZ×Z Int×Z Int×Z Int×Z dZ))) (aa.1,aa.2.1,aa.2.2,p0_10,p0_11)).bind λo=>some (o.1,o.2.1,o.2.2.1,o.2.2.2.1,o.2.2.2.2)
def jt(N:Nat)(p0:gM):aT (aT (Z (Z aG)×Z aG×Z bU×Z cX×Z (Z aA)×Z aD×Z (Z Int)×Z bZ×Z Int×Z Int×Z Int×Z dZ)×Int):=
 bif(p0.aL.length:Int)==0 then some (none,9)else(bif decide ((p0.aL.length:Int)>16)then some (none,2)else((vA p0.aL.length (λ(an:Nat)(aa:Int)=>((idx p0.aL (an:Int)).bind λae=>(kP N ae).bind λaf=>bif af != 0 then some (.rt (none,af))else(some<|.nx<|wrap .i64<|aa+(ae.length:Int)):aT (Fl Int<|aT (Z (Z aG)×Z aG×Z bU×Z cX×Z (Z aA)×Z aD×Z (Z Int)×Z bZ×Z Int×Z Int×Z Int×Z dZ)×Int))) (p0.cQ.length:Int)).bind λao=>ao.cs (λ(aa:Int)=>(kP N p0.cQ).bind λag=>bif ag != 0 then some (none,ag)else(bif aa>2000 then some (none,2)else((mm N p0).bind λah=>bif ah != 0 then some (none,ah)else((mo N p0).bind λai=>bif ai != 0 then some (none,ai)else((vA p0.aN.length (λ(aj:Nat)(aq:Unit)=>((idx p0.aN (aj:Int)).bind λab=>(vB p0.aN 0 (aj:Int)).bind λak=>(vA ak.length (λ(ar:Nat)(au:Unit)=>((idx ak (ar:Int)).bind λad=>(bif decide (ab.cO<=ad.To)&&decide (ad.cO<=ab.To)then((iC N ab).bind λFb=>(iC N ad).bind λav=>(mP N Fb av).bind λaw=>some<|aw==0)else some false).bind λax=>bif ax then some (.rt (none,12))else(some<|.nx ()):aT (Fl Unit<|aT (Z (Z aG)×Z aG×Z bU×Z cX×Z (Z aA)×Z aD×Z (Z Int)×Z bZ×Z Int×Z Int×Z Int×Z dZ)×Int))) ()).bind λay=>ay.cs (λ(au:Unit)=>some<|.nx ()) (λr=>some<|.rt r):aT (Fl Unit<|aT (Z (Z aG)×Z aG×Z bU×Z cX×Z (Z aA)×Z aD×Z (Z Int)×Z bZ×Z Int×Z Int×Z Int×Z dZ)×Int))) ()).bind λaz=>az.cs (λ(aq:Unit)=>(lJ N p0.aL p0.aN ([]:Z (Z aA)) ([]:Z aD)).bind λj=>bif(!j.1)then some (none,2)else((lK N p0.aN j.2.2 ([]:Z (Z Int))).bind λal=>(il N p0.aN p0.bO j.2.2 al ([]:Z Int) ([]:Z Int) ([]:Z Int) ([]:Z dZ)).bind λo=>some (some (p0.aL,p0.cQ,p0.aN,p0.bO,j.2.1,j.2.2,al,o.1,o.2.1,o.2.2.1,o.2.2.2.1,o.2.2.2.2),0)))<|λr=>some r)))))<|λr=>some r))
def gX(N:Nat)(p0:Z cX)(p1:eG)(p2:cX->eG->aT Int):aT (Int×Bool):=
 (iD (λ(j:Int×Int)=>(bif j.1<j.2 then((idx p0<|wrap .i64<|Int.fdiv (wrap .u64<|wrap .i64<|j.1+j.2) 2).bind λaa=>(p2 aa p1).bind λab=>(bif ab<0 then some (wrap .i64<|wrap .i64 (Int.fdiv (wrap .u64<|wrap .i64<|j.1+j.2) 2)+1,j.2)else some (j.1,wrap .i64<|Int.fdiv (wrap .u64<|wrap .i64<|j.1+j.2) 2)).bind λo=>some<|.nx (o.1,o.2))else(some<|.br (j.1,j.2)):aT (Fl (Int×Int) Empty))) N (0,(p0.length:Int))).bind λad=>ad.cs (λ(j:Int×Int)=>(bif decide (j.1<(p0.length:Int))then((idx p0 j.1).bind λae=>(p2 ae p1).bind λaf=>some<|af==0)else some false).bind λag=>some (j.1,ag))<|λr=>r.elim
def kh(N:Nat)(p0:cX)(p1:eG):aT Int:=
 (nj N p0).bind λj=>(fC N j p1).bind λo=>some o
def fW(N:Nat)(p0:gM)(p1:eG):aT Int:=
 (gX N p0.bO p1<|kh N).bind λj=>bif(!j.2)then some (-1)else some j.1
def uP(N:Nat)(p0:Z Int):aT Int:=
 (vA p0.length (λ(o:Nat)(aa:Unit)=>((idx p0 (o:Int)).bind λj=>bif j != 0 then some (.rt j)else(some<|.nx ()):aT (Fl Unit Int))) ()).bind λab=>ab.cs (λ(aa:Unit)=>some 0)<|λr=>some r
def jl(N:Nat)(p0 p1:Test):aT Int:=
 (fC N p0.A p1.A).bind λj=>(fC N p0.B p1.B).bind λo=>(uP N ([j,o]:Z Int)).bind λaa=>some aa
def mE(N:Nat)(p0:gM)(p1:Z Test):aT (aT (Z (Z aG)×Z aG×Z bU×Z cX×Z (Z aA)×Z aD×Z (Z Int)×Z bZ×Z Int×Z Int×Z Int×Z dZ)×Int):=
 (jt N p0).bind λo=>Hi o.1 (bif o.2 != 0 then some (none,o.2)else(bif decide ((p1.length:Int)>2000)then some (none,2)else((vA p1.length (λ(ad:Nat)(af:Unit)=>((idx p1 (ad:Int)).bind λaa=>((fW N p0 aa.A).bind λag=>bif ag<0 then some true else((fW N p0 aa.B).bind λDd=>some<|decide<|Dd<0)).bind λah=>bif ah then some (.rt (none,9))else((fC N aa.B aa.A).bind λai=>bif ai<=0 then some (.rt (none,8))else((bif decide ((ad:Int)>0)then((idx p1<|wrap .i64<|(ad:Int) - 1).bind λFb=>(jl N aa Fb).bind λaj=>some<|decide<|aj<=0)else some false).bind λak=>bif ak then some (.rt (none,8))else some (.nx ()))):aT (Fl Unit<|aT (Z (Z aG)×Z aG×Z bU×Z cX×Z (Z aA)×Z aD×Z (Z Int)×Z bZ×Z Int×Z Int×Z Int×Z dZ)×Int))) ()).bind λal=>al.cs (λ(af:Unit)=>some (none,0))<|λr=>some r))) (λ(j:(Z (Z aG)×Z aG×Z bU×Z cX×Z (Z aA)×Z aD×Z (Z Int)×Z bZ×Z Int×Z Int×Z Int×Z dZ))=>bif o.2 != 0 then some (none,o.2)else(bif decide ((p1.length:Int)>2000)then some (none,2)else((vA p1.length (λ(ae:Nat)(an:Unit)=>((idx p1 (ae:Int)).bind λab=>((fW N p0 ab.A).bind λao=>bif ao<0 then some true else((fW N p0 ab.B).bind λaq=>some<|decide<|aq<0)).bind λar=>bif ar then some (.rt (none,9))else((fC N ab.B ab.A).bind λau=>bif au<=0 then some (.rt (none,8))else((bif decide ((ae:Int)>0)then((idx p1<|wrap .i64<|(ae:Int) - 1).bind λav=>(jl N ab av).bind λaw=>some<|decide<|aw<=0)else some false).bind λax=>bif ax then some (.rt (none,8))else some (.nx ()))):aT (Fl Unit<|aT (Z (Z aG)×Z aG×Z bU×Z cX×Z (Z aA)×Z aD×Z (Z Int)×Z bZ×Z Int×Z Int×Z Int×Z dZ)×Int))) ()).bind λay=>ay.cs (λ(an:Unit)=>some (some (j.1,j.2.1,j.2.2.1,j.2.2.2.1,j.2.2.2.2.1,j.2.2.2.2.2.1,j.2.2.2.2.2.2.1,j.2.2.2.2.2.2.2.1,j.2.2.2.2.2.2.2.2.1,j.2.2.2.2.2.2.2.2.2.1,j.2.2.2.2.2.2.2.2.2.2.1,j.2.2.2.2.2.2.2.2.2.2.2),0))<|λr=>some r)))
def pG(N:Nat)(p0 p1 p2:Int):aT Bool:=
 some (decide (p0>=p1)&&decide (p0<=p2))
def j9(N:Nat)(p0:dZ)(p1:Int)(p3_0:Z bL)(p2h_7:Z bZ):aT (Z bL):=
 (bif p1>=0 then((idx p2h_7 p1).bind λj=>some<|decide<|(j.fB.length:Int)>1)else some false).bind λo=>(bif o then((app 40 p3_0 ([(⟨true,p0,0,0⟩:bL)]:Z bL)).bind λaa=>some aa)else some p3_0).bind λab=>some ab
def uQ(N:Nat)(p0 p1:aG)(p2:Int):aT dW:=
 some (⟨(if p0.X0<(wrap .i64<|p1.X0 - p2)then wrap .i64 (p1.X0 - p2)else p0.X0),(if p0.Y0<(wrap .i64<|p1.Y0 - p2)then wrap .i64 (p1.Y0 - p2)else p0.Y0)⟩:dW)
def uR(N:Nat)(p0 p1:dW):aT Bool:=
 some (decide (p0.Y<p1.Y)||((p0.Y==p1.Y)&&decide (p0.X<p1.X)))
def qW(N:Nat)(p0:Z aG)(p1:Z aG):aT we:=
 (kL p0.length (λ(an:Nat)(aa:Int)=>((idx p0 (an:Int)).bind λao=>(kL p1.length (λ(aq:Nat)(ad:Int)=>((idx p1 (aq:Int)).bind λar=>(mP N ao ar).bind λae=>(bif decide (ad<0)||decide (ae<ad)then some ae else some ad).bind λau=>some au:aT Int)) aa).bind λad=>some ad:aT Int))<|-1).bind λaa=>(kL p0.length (λ(av:Nat)(j:we×Bool)=>((idx p0 (av:Int)).bind λaf=>(kL p1.length (λ(aw:Nat)(o:we×Bool)=>((idx p1 (aw:Int)).bind λag=>(uQ N af ag aa).bind λah=>((mP N af ag).bind λax=>bif ax==aa then(bif(!o.2)then some true else((uR N ah o.1.cO).bind λay=>some ay))else some false).bind λaz=>(bif az then some ({o.1 with cO:=ah},true)else some (o.1,o.2)).bind λai=>some (ai.1,ai.2):aT (we×Bool))) (j.1,j.2)).bind λo=>some (o.1,o.2):aT (we×Bool))) ((⟨0,0,wrap .i64<|aa - 1,⟨0,0⟩,⟨0,0⟩⟩:we),false)).bind λj=>(kL p1.length (λ(a0:Nat)(ab:we×Bool)=>((idx p1 (a0:Int)).bind λaj=>(uQ N aj (⟨j.1.cO.X,j.1.cO.Y,wrap .i64<|j.1.cO.X+1,wrap .i64<|j.1.cO.Y+1⟩:aG) aa).bind λak=>((mP N aj (⟨j.1.cO.X,j.1.cO.Y,wrap .i64<|j.1.cO.X+1,wrap .i64<|j.1.cO.Y+1⟩:aG)).bind λa1=>bif a1==aa then(bif(!ab.2)then some true else((uR N ak ab.1.To).bind λa2=>some a2))else some false).bind λa3=>(bif a3 then some ({ab.1 with To:=ak},true)else some (ab.1,ab.2)).bind λal=>some (al.1,al.2):aT (we×Bool))) (j.1,false)).bind λab=>some ab.1
def rK(N:Nat)(p0_0:Z (Z aG))(p0_1:Z aG)(p0_2:Z bU)(p0_3:Z cX)(p0_4:Z (Z aA))(p0_5:Z aD)(p0_6:Z (Z Int))(p0_7:Z bZ)(p0_8:Z Int)(p0_9:Z Int)(p0_10:Z Int)(p0_11:Z dZ)(p1:Int):aT (Z bL×Int):=
 (pG N p1 0 100000).bind λah=>bif(!ah)then some (([]:Z bL),1)else((kL p0_8.length (λ(ae:Nat)(ab:Z bL)=>((idx p0_8 (ae:Int)).bind λai=>(j9 N (⟨false,(ae:Int)⟩:dZ) ai ab p0_7).bind λaj=>some aj:aT (Z bL))) ([]:Z bL)).bind λab=>(kL p0_9.length (λ(af:Nat)(ad:Z bL)=>((idx p0_9 (af:Int)).bind λak=>(j9 N (⟨true,(af:Int)⟩:dZ) ak ad p0_7).bind λal=>some al:aT (Z bL))) ab).bind λad=>(kL p0_5.length (λ(o:Nat)(aa:Z bL)=>((idx p0_5 (o:Int)).bind λag=>(iD (λ(j:Z bL×Int)=>((bif decide (j.2<(p0_5.length:Int))then((idx p0_5 j.2).bind λan=>some<|an.cM==ag.cM)else some false).bind λao=>bif ao then(((idx p0_8 (o:Int)).bind λaq=>(idx p0_8 j.2).bind λar=>bif aq != ar then((idx p0_5 j.2).bind λau=>(qW N ag.dY au.dY).bind λav=>some<|decide<|av.iX<p1)else some false).bind λaw=>(bif aw then((app 40 j.1 ([(⟨false,⟨false,0⟩,(o:Int),j.2⟩:bL)]:Z bL)).bind λax=>some ax)else some j.1).bind λay=>some<|.nx (ay,wrap .i64<|j.2+1))else(some<|.br (j.1,j.2)):aT (Fl (Z bL×Int) Empty))) N (aa,wrap .i64<|(o:Int)+1)).bind λaz=>az.cs (λ(j:Z bL×Int)=>some j.1) (λr=>r.elim):aT (Z bL))) ad).bind λaa=>bif decide ((aa.length:Int)>20000)then some (([]:Z bL),2)else some (aa,0))
def ju(N:Nat)(p0:dZ)(p1:Int):aT Int:=
 bif p0.bU then some (wrap .i64<|p1+p0.Number)else some p0.Number
def ki(N:Nat)(p0 p1:Int)(p2_0:Z (Int×Bool))(p3h_0:Z Int):aT (Z Int):=
 (bif(!(fU p2_0 p0 (false:Bool)))then some (!(fU p2_0 p1 (false:Bool)))else some false).bind λj=>(bif j then((fV N p3h_0 p0 p1).bind λo=>some o)else some p3h_0).bind λaa=>some aa
def fD(N:Nat)(p0_2:Z bU)(p0_3:Z cX)(p0_5:Z aD)(p0_6:Z (Z Int))(p0_10:Z Int)(p0_11:Z dZ)(p1:Z bL):aT (Z Int):=
 (kL p1.length (λ(aq:Nat)(aa:Z (Int×Bool))=>((idx p1 (aq:Int)).bind λaj=>(bif aj.Open then((ju N aj.dZ (p0_5.length:Int)).bind λar=>some<|tj aa ar true)else some aa).bind λau=>some au:aT (Z<|Int×Bool))) ([]:Z (Int×Bool))).bind λaa=>(lC N<|wrap .i64<|(p0_5.length:Int)+(p0_2.length:Int)).bind λav=>(kL p0_6.length (λ(ak:Nat)(ae:Z Int)=>((idx p0_6 (ak:Int)).bind λal=>(kL al.length (λ(aw:Nat)(af:Z Int)=>((idx al (aw:Int)).bind λax=>(ki N ax (wrap .i64<|(p0_5.length:Int)+(ak:Int)) aa af).bind λay=>some ay:aT (Z Int))) ae).bind λaf=>some af:aT (Z Int))) av).bind λae=>(kL p1.length (λ(az:Nat)(ab:Z Int)=>((idx p1 (az:Int)).bind λag=>(bif(!ag.Open)then((ki N ag.A ag.B aa ab).bind λa0=>some a0)else some ab).bind λa1=>some a1:aT (Z Int))) ae).bind λab=>(mk 8 (0:Int) (p0_3.length:Int)).bind λa2=>(kL p0_11.length (λ(o:Nat)(j:Z Int×Z (Int×Int)×Z Int)=>((idx p0_11 (o:Int)).bind λa3=>(ju N a3 (p0_5.length:Int)).bind λad=>((idx p0_10 (o:Int)).bind λa4=>bif a4<0 then some true else some (fU aa ad (false:Bool))).bind λa5=>bif a5 then((idx j.2.2 (o:Int)).bind λa6=>some (j.1,j.2.1,j.2.2.set (Int.toNat (o:Int))<|-1))else((fO N j.1 ad).bind λah=>(bif(!(mC j.2.1 ah.1))then((fO N ah.2 ad).bind λan=>some (an.2,tj j.2.1 an.1 (o:Int)))else some (ah.2,j.2.1)).bind λai=>(fO N ai.1 ad).bind λao=>(idx j.2.2 (o:Int)).bind λa7=>some (ao.2,ai.2,j.2.2.set (Int.toNat (o:Int))<|fU ai.2 ao.1 (0:Int))):aT (Z Int×Z (Int×Int)×Z Int))) (ab,([]:Z (Int×Int)),a2)).bind λj=>some j.2.2
def tn(N:Nat)(p0:Z Int)(p1:Z Int):aT Bool:=
 (vA p0.length (λ(j:Nat)(ab:Unit)=>((idx p0 (j:Int)).bind λo=>(idx p1 (j:Int)).bind λaa=>(bif o<0 then some (j:Int)else some o).bind λad=>(bif aa<0 then some (j:Int)else some aa).bind λae=>bif ad != ae then some (.rt false)else(some<|.nx ()):aT (Fl Unit Bool))) ()).bind λaf=>af.cs (λ(ab:Unit)=>some true)<|λr=>some r
def oR(N:Nat)(p0_0:Z (Z aG))(p0_1:Z aG)(p0_2:Z bU)(p0_3:Z cX)(p0_5:Z aD)(p0_6:Z (Z Int))(p0_10:Z Int)(p0_11:Z dZ)(p1:Z Test)(p2:Z bL):aT (Z Bool):=
 (fD N p0_2 p0_3 p0_5 p0_6 p0_10 p0_11 p2).bind λo=>(kL p1.length (λ(ad:Nat)(j:Z Bool)=>((idx p1 (ad:Int)).bind λaa=>(fW N (⟨p0_0,p0_1,p0_2,p0_3⟩:gM) aa.A).bind λab=>(fW N (⟨p0_0,p0_1,p0_2,p0_3⟩:gM) aa.B).bind λae=>((idx o ab).bind λaf=>bif af>=0 then((idx o ab).bind λag=>(idx o ae).bind λah=>(app 1 j ([ag==ah]:Z Bool)).bind λai=>some ai)else((app 1 j ([false]:Z Bool)).bind λaj=>some aj)).bind λak=>some ak:aT (Z Bool))) ([]:Z Bool)).bind λj=>some j
def gL(N:Nat)(p0:gM)(p1:Z Test)(p2:Int):aT (Z cL×Z Bool×Int):=
 (mE N p0 p1).bind λaa=>Hi aa.1 (bif aa.2 != 0 then some (([]:Z cL),([]:Z Bool),aa.2)else none) (λ(j:(Z (Z aG)×Z aG×Z bU×Z cX×Z (Z aA)×Z aD×Z (Z Int)×Z bZ×Z Int×Z Int×Z Int×Z dZ))=>bif aa.2 != 0 then some (([]:Z cL),([]:Z Bool),aa.2)else((rK N j.1 j.2.1 j.2.2.1 j.2.2.2.1 j.2.2.2.2.1 j.2.2.2.2.2.1 j.2.2.2.2.2.2.1 j.2.2.2.2.2.2.2.1 j.2.2.2.2.2.2.2.2.1 j.2.2.2.2.2.2.2.2.2.1 j.2.2.2.2.2.2.2.2.2.2.1 j.2.2.2.2.2.2.2.2.2.2.2 p2).bind λab=>bif ab.2 != 0 then some (([]:Z cL),([]:Z Bool),ab.2)else((fD N j.2.2.1 j.2.2.2.1 j.2.2.2.2.2.1 j.2.2.2.2.2.2.1 j.2.2.2.2.2.2.2.2.2.2.1 j.2.2.2.2.2.2.2.2.2.2.2 ([]:Z bL)).bind λae=>(kL ab.1.length (λ(af:Nat)(o:Z Int×Z cL)=>((idx ab.1 (af:Int)).bind λad=>(fD N j.2.2.1 j.2.2.2.1 j.2.2.2.2.2.1 j.2.2.2.2.2.2.1 j.2.2.2.2.2.2.2.2.2.2.1 j.2.2.2.2.2.2.2.2.2.2.2 ([ad]:Z bL)).bind λag=>(tn N ag o.1).bind λah=>(bif(!ah)then((oR N j.1 j.2.1 j.2.2.1 j.2.2.2.1 j.2.2.2.2.2.1 j.2.2.2.2.2.2.1 j.2.2.2.2.2.2.2.2.2.2.1 j.2.2.2.2.2.2.2.2.2.2.2 p1 ([ad]:Z bL)).bind λai=>(app 64 o.2 ([(⟨ad,ai⟩:cL)]:Z cL)).bind λaj=>some aj)else some o.2).bind λak=>some (o.1,ak):aT (Z Int×Z cL))) (ae,([]:Z cL))).bind λo=>(oR N j.1 j.2.1 j.2.2.1 j.2.2.2.1 j.2.2.2.2.2.1 j.2.2.2.2.2.2.1 j.2.2.2.2.2.2.2.2.2.2.1 j.2.2.2.2.2.2.2.2.2.2.2 p1 ([]:Z bL)).bind λal=>some (o.2,al,0))))
def mq(N:Nat)(p0:Z Bool)(p1:Z Bool):aT Bool:=
 bif(p0.length:Int) != (p1.length:Int)then some false else((vA p0.length (λ(j:Nat)(o:Unit)=>((idx p0 (j:Int)).bind λaa=>(idx p1 (j:Int)).bind λab=>bif aa != ab then some (.rt false)else(some<|.nx ()):aT (Fl Unit Bool))) ()).bind λad=>ad.cs (λ(o:Unit)=>some true)<|λr=>some r)
def mu(N:Nat)(p0:gM)(p1:Z Test)(p2:Int):aT (Z bL×Int):=
 (gL N p0 p1 p2).bind λo=>bif o.2.2 != 0 then some (([]:Z bL),o.2.2)else((kL o.1.length (λ(ab:Nat)(j:Z Bool×Z bL)=>((idx o.1 (ab:Int)).bind λaa=>(mq N aa.AW j.1).bind λad=>(bif ad then((app 40 j.2 ([aa.Ln]:Z bL)).bind λae=>some ae)else some j.2).bind λaf=>some (j.1,af):aT (Z Bool×Z bL))) (o.2.1,([]:Z bL))).bind λj=>some (j.2,0))
def oS(N:Nat)(p0 p1 p2:Int):aT Bool:=
 some (decide (p0>=p1)&&decide (p0<=p2))
def dH(N:Nat)(p0:Int):aT Bool:=
 (oS N p0 (-1000000) 1000000).bind λj=>some j
def iZ(N:Nat)(p0:Z aG):aT Int:=
 bif decide ((p0.length:Int)>2000)then some 2 else((iD (λ(o:Int)=>(bif decide (o<(p0.length:Int))then((idx p0 o).bind λj=>((dH N j.X0).bind λaa=>bif(!aa)then some true else((dH N j.Y0).bind λab=>bif(!ab)then some true else((dH N j.X1).bind λad=>bif(!ad)then some true else((dH N j.Y1).bind λae=>some<|!ae)))).bind λaf=>bif af then some (.rt 1)else(bif decide (j.X1<=j.X0)||decide (j.Y1<=j.Y0)then some (.rt 13)else some (.nx<|wrap .i64<|o+1)))else(some<|.br o):aT (Fl Int Int))) N 0).bind λag=>ag.cs (λ(o:Int)=>some 0)<|λr=>some r)
def jv(N:Nat)(p0 p1:aG):aT Bool:=
 some (decide (p0.Y0<p1.Y0)||((p0.Y0==p1.Y0)&&decide (p0.X0<p1.X0)))
def gv(N:Nat)(p0:Z Int)(p1:Int):aT (Z Int):=
 (iD (λ(j:Int×Int)=>(bif j.1<j.2 then((idx p0<|wrap .i64<|Int.tdiv (wrap .i64<|j.1+j.2) 2).bind λaa=>(bif aa<p1 then some (wrap .i64<|wrap .i64 (Int.tdiv (wrap .i64<|j.1+j.2) 2)+1,j.2)else some (j.1,wrap .i64<|Int.tdiv (wrap .i64<|j.1+j.2) 2)).bind λo=>some<|.nx (o.1,o.2))else(some<|.br (j.1,j.2)):aT (Fl (Int×Int) Empty))) N (0,(p0.length:Int))).bind λab=>ab.cs (λ(j:Int×Int)=>(bif decide (j.1<(p0.length:Int))then((idx p0 j.1).bind λad=>some<|ad==p1)else some false).bind λae=>bif ae then some p0 else((vB p0 0 j.1).bind λaf=>(app 8 ([]:Z Int) af).bind λag=>(app 8 ag ([p1]:Z Int)).bind λah=>(vB p0 j.1 (p0.length:Int)).bind λai=>(app 8 ah ai).bind λaj=>some aj))<|λr=>r.elim
def iV(N:Nat)(p0:Z aG):aT (Z Int):=
 (iD (λ(j:Z Int×Int)=>(bif decide (j.2<(p0.length:Int))then((idx p0 j.2).bind λo=>(idx p0 j.2).bind λaa=>(gv N j.1 o.Y0).bind λab=>(gv N ab aa.Y1).bind λad=>some<|.nx (ad,wrap .i64<|j.2+1))else(some<|.br (j.1,j.2)):aT (Fl (Z Int×Int) Empty))) N (([]:Z Int),0)).bind λae=>ae.cs (λ(j:Z Int×Int)=>some j.1)<|λr=>r.elim
def jw(N:Nat)(p0:Z aI)(p1:aI):aT (Z aI):=
 (iD (λ(o:Z aI×Int)=>((bif decide (o.2<(p0.length:Int))then((idx p0 o.2).bind λad=>some<|decide<|ad.to<p1.from_)else some false).bind λae=>bif ae then((idx p0 o.2).bind λaf=>(app 16 o.1 ([af]:Z aI)).bind λag=>some<|.nx (ag,wrap .i64<|o.2+1))else(some<|.br (o.1,o.2)):aT (Fl (Z aI×Int) Empty))) N (([]:Z aI),0)).bind λah=>ah.cs (λ(o:Z aI×Int)=>(iD (λ(j:aI×Int)=>((bif decide (j.2<(p0.length:Int))then((idx p0 j.2).bind λai=>some<|decide<|ai.from_<=j.1.to)else some false).bind λaj=>bif aj then((idx p0 j.2).bind λaa=>(idx p0 j.2).bind λab=>some<|.nx ({{j.1 with from_:=(if aa.from_<j.1.from_ then aa.from_ else j.1.from_)}with to:=(if j.1.to<ab.to then ab.to else j.1.to)},wrap .i64<|j.2+1))else(some<|.br (j.1,j.2)):aT (Fl (aI×Int) Empty))) N (p1,o.2)).bind λak=>ak.cs (λ(j:aI×Int)=>(app 16 o.1 ([j.1]:Z aI)).bind λal=>(vB p0 j.2 (p0.length:Int)).bind λan=>(app 16 al an).bind λao=>some ao)<|λr=>r.elim)<|λr=>r.elim
def iT(N:Nat)(p0:Z aG)(p1:Int):aT (Z aI):=
 (iD (λ(j:Z aI×Int)=>(bif decide (j.2<(p0.length:Int))then(((idx p0 j.2).bind λo=>bif o.Y0<=p1 then((idx p0 j.2).bind λaa=>some<|decide<|p1<aa.Y1)else some false).bind λab=>(bif ab then((idx p0 j.2).bind λad=>(idx p0 j.2).bind λae=>(jw N j.1 (⟨ad.X0,ae.X1⟩:aI)).bind λaf=>some af)else some j.1).bind λag=>some<|.nx (ag,wrap .i64<|j.2+1))else(some<|.br (j.1,j.2)):aT (Fl (Z aI×Int) Empty))) N (([]:Z aI),0)).bind λah=>ah.cs (λ(j:Z aI×Int)=>some j.1)<|λr=>r.elim
def kQ(N:Nat)(p0:Z aI)(p1:Z aI):aT Bool:=
 bif(p0.length:Int) != (p1.length:Int)then some false else((iD (λ(j:Int)=>(bif decide (j<(p0.length:Int))then((idx p0 j).bind λo=>(idx p1 j).bind λaa=>bif(!(decide<|o=aa))then some (.rt false)else some (.nx<|wrap .i64<|j+1))else(some<|.br j):aT (Fl Int Bool))) N 0).bind λab=>ab.cs (λ(j:Int)=>some true)<|λr=>some r)
def gR(N:Nat)(p0:Z aQ)(p1:aQ):aT (Z aQ):=
 bif(p1.kq.length:Int)==0 then some p0 else((bif decide ((p0.length:Int)>0)then((idx p0<|wrap .i64<|(p0.length:Int) - 1).bind λj=>bif j.to==p1.from_ then((idx p0<|wrap .i64<|(p0.length:Int) - 1).bind λo=>(kQ N o.kq p1.kq).bind λaa=>some aa)else some false)else some false).bind λab=>bif ab then((idx p0<|wrap .i64<|(p0.length:Int) - 1).bind λad=>some<|p0.set (Int.toNat<|wrap .i64<|(p0.length:Int) - 1)<|{ad with to:=p1.to})else((app 40 p0 ([p1]:Z aQ)).bind λae=>some ae))
def kj(N:Nat)(p0:Z aQ):aT (Z aG):=
 (iD (λ(j:Z aG×Int)=>(bif decide (j.2<(p0.length:Int))then((iD (λ(o:Z aG×Int)=>((idx p0 j.2).bind λaa=>bif decide (o.2<(aa.kq.length:Int))then((idx p0 j.2).bind λab=>(idx ab.kq o.2).bind λad=>(idx p0 j.2).bind λae=>(idx p0 j.2).bind λaf=>(idx af.kq o.2).bind λag=>(idx p0 j.2).bind λah=>(app 32 o.1 ([(⟨ad.from_,ae.from_,ag.to,ah.to⟩:aG)]:Z aG)).bind λai=>some<|.nx (ai,wrap .i64<|o.2+1))else(some<|.br (o.1,o.2)):aT (Fl (Z aG×Int) Empty))) N (j.1,0)).bind λaj=>aj.cs (λ(o:Z aG×Int)=>some<|.nx (o.1,wrap .i64<|j.2+1))<|λr=>r.elim)else(some<|.br (j.1,j.2)):aT (Fl (Z aG×Int) Empty))) N (([]:Z aG),0)).bind λak=>ak.cs (λ(j:Z aG×Int)=>some j.1)<|λr=>r.elim
def gu(N:Nat)(p0:Z aG):aT (Z aG):=
 (iV N p0).bind λo=>(iD (λ(j:Z aQ×Int)=>(bif decide (j.2<(o.length:Int))then((idx o<|wrap .i64<|j.2 - 1).bind λaa=>(idx o j.2).bind λab=>(idx o<|wrap .i64<|j.2 - 1).bind λad=>(iT N p0 ad).bind λae=>(gR N j.1 (⟨aa,ab,ae⟩:aQ)).bind λaf=>some<|.nx (af,wrap .i64<|j.2+1))else(some<|.br (j.1,j.2)):aT (Fl (Z aQ×Int) Empty))) N (([]:Z aQ),1)).bind λag=>ag.cs (λ(j:Z aQ×Int)=>(kj N j.1).bind λah=>some ah)<|λr=>r.elim
def kR(N:Nat)(p0:Z aG)(p1:Z aG):aT Bool:=
 bif(p0.length:Int) != (p1.length:Int)then some false else((iD (λ(j:Int)=>(bif decide (j<(p0.length:Int))then((idx p0 j).bind λo=>(idx p1 j).bind λaa=>bif(!(decide<|o=aa))then some (.rt false)else some (.nx<|wrap .i64<|j+1))else(some<|.br j):aT (Fl Int Bool))) N 0).bind λab=>ab.cs (λ(j:Int)=>some true)<|λr=>some r)
def gw(N:Nat)(p0:Z aG):aT Int:=
 (iZ N p0).bind λo=>bif o != 0 then some o else((iD (λ(j:Int)=>(bif decide (j<(p0.length:Int))then((idx p0<|wrap .i64<|j - 1).bind λaa=>(idx p0 j).bind λab=>(jv N aa ab).bind λad=>bif(!ad)then some (.rt 8)else some (.nx<|wrap .i64<|j+1))else(some<|.br j):aT (Fl Int Int))) N 1).bind λae=>ae.cs (λ(j:Int)=>(gu N p0).bind λaf=>(kR N p0 af).bind λag=>bif(!ag)then some 3 else some 0)<|λr=>some r)
def eQ(N:Nat)(p0 p1 p2:Int):aT Bool:=
 some (decide (p0>=p1)&&decide (p0<=p2))
def gS(N:Nat)(p0:dW):aT Bool:=
 ((dH N p0.X).bind λj=>bif j then((dH N p0.Y).bind λo=>some o)else some false).bind λaa=>some aa
def cV(N:Nat)(p0:bU):aT aG:=
 some (⟨wrap .i64<|p0.At.X -(wrap .i64<|Int.tdiv p0.eJ 2),wrap .i64<|p0.At.Y -(wrap .i64<|Int.tdiv p0.eJ 2),wrap .i64<|wrap .i64 (p0.At.X -(wrap .i64<|Int.tdiv p0.eJ 2))+p0.eJ,wrap .i64<|wrap .i64 (p0.At.Y -(wrap .i64<|Int.tdiv p0.eJ 2))+p0.eJ⟩:aG)
def iP(N:Nat)(p0:bU):aT Int:=
 ((eQ N p0.eJ 1 10000).bind λo=>bif(!o)then some true else((gS N p0.At).bind λaa=>some<|!aa)).bind λab=>bif ab then some 1 else((cV N p0).bind λj=>((dH N j.X0).bind λad=>bif(!ad)then some true else((dH N j.Y0).bind λae=>bif(!ae)then some true else((dH N j.X1).bind λaf=>bif(!af)then some true else((dH N j.Y1).bind λag=>some<|!ag)))).bind λah=>bif ah then some 1 else some 0)
def iq(N:Nat)(p0:eU):aT Bool:=
 (iD (λ(o:Int)=>(bif decide (o<(p0.dV.length:Int))then((Le p0 o).bind λj=>(bif(!(((decide ((j.toNat:Int)>=97)&&decide ((j.toNat:Int)<=122))||(decide ((j.toNat:Int)>=65)&&decide ((j.toNat:Int)<=90)))||(decide ((j.toNat:Int)>=48)&&decide ((j.toNat:Int)<=57))))then((iS N (⟨[95,43,45,35]⟩) (j.toNat:Int)).bind λaa=>some<|decide<|aa<0)else some false).bind λab=>bif ab then some (.rt false)else some (.nx<|wrap .i64<|o+1))else(some<|.br o):aT (Fl Int Bool))) N 0).bind λad=>ad.cs (λ(o:Int)=>(eQ N (p0.dV.length:Int) 1 40).bind λae=>some ae)<|λr=>some r
def kG(N:Nat)(p0:eU):aT Bool:=
 (nX N p0<|⟨[47]⟩).bind λo=>(iD (λ(j:Int)=>(bif decide (j<(o.length:Int))then((idx o j).bind λaa=>(iq N aa).bind λab=>bif(!ab)then some (.rt false)else some (.nx<|wrap .i64<|j+1))else(some<|.br j):aT (Fl Int Bool))) N 0).bind λad=>ad.cs (λ(j:Int)=>some<|decide<|(p0.dV.length:Int)<=200)<|λr=>some r
def jy(N:Nat)(p0:gM)(p1:Int):aT Int:=
 (idx p0.bO p1).bind λj=>((kG N j.Part).bind λaa=>bif(!aa)then some true else((iq N j.eG).bind λab=>some<|!ab)).bind λad=>bif ad then some 5 else(((eQ N j.cM 0<|wrap .i64<|(p0.aL.length:Int) - 1).bind λae=>bif(!ae)then some true else((gS N j.At).bind λaf=>some<|!af)).bind λag=>bif ag then some 1 else(bif p1>0 then((idx p0.bO<|wrap .i64<|p1 - 1).bind λo=>bif j.Part.wc o.Part||(j.Part.wF o.Part&&(j.eG.wc o.eG||j.eG.wF o.eG))then some 8 else some 0)else some 0))
def i5(N:Nat)(p0:gM):aT Int:=
 bif(p0.aL.length:Int)==0 then some 9 else(bif decide ((p0.aL.length:Int)>16)then some 2 else((iD (λ(j:Int×Int)=>(bif decide (j.2<(p0.aL.length:Int))then((idx p0.aL j.2).bind λah=>(gw N ah).bind λad=>bif ad != 0 then some (.rt ad)else((idx p0.aL j.2).bind λai=>some<|.nx (wrap .i64<|j.1+(ai.length:Int),wrap .i64<|j.2+1)))else(some<|.br (j.1,j.2)):aT (Fl (Int×Int) Int))) N ((p0.cQ.length:Int),0)).bind λaj=>aj.cs (λ(j:Int×Int)=>(gw N p0.cQ).bind λae=>bif ae != 0 then some ae else((bif j.1>2000 then some true else some (decide<|(p0.aN.length:Int)>500)).bind λak=>bif ak then some 2 else((iD (λ(o:Int)=>(bif decide (o<(p0.aN.length:Int))then((idx p0.aN o).bind λab=>(iP N ab).bind λaf=>bif af != 0 then some (.rt af)else(((eQ N ab.cO 0<|wrap .i64<|(p0.aL.length:Int) - 1).bind λal=>bif(!al)then some true else((eQ N ab.To ab.cO<|wrap .i64<|(p0.aL.length:Int) - 1).bind λan=>some<|!an)).bind λao=>bif ao then some (.rt 1)else some (.nx<|wrap .i64<|o+1)))else(some<|.br o):aT (Fl Int Int))) N 0).bind λaq=>aq.cs (λ(o:Int)=>bif decide ((p0.bO.length:Int)>1000)then some 2 else((iD (λ(aa:Int)=>(bif decide (aa<(p0.bO.length:Int))then((jy N p0 aa).bind λag=>bif ag != 0 then some (.rt ag)else some (.nx<|wrap .i64<|aa+1))else(some<|.br aa):aT (Fl Int Int))) N 0).bind λar=>ar.cs (λ(aa:Int)=>some 0)<|λr=>some r))<|λr=>some r)))<|λr=>some r))
def jz(N:Nat)(p0 p1:bU):aT Bool:=
 some (decide (p0.cO<=p1.To)&&decide (p1.cO<=p0.To))
def gT(N:Nat)(p0 p1:aG):aT Bool:=
 (bif(if p1.X1<p0.X1 then p1.X1 else p0.X1)>(if p0.X0<p1.X0 then p1.X0 else p0.X0)then some (decide<|(if p1.Y1<p0.Y1 then p1.Y1 else p0.Y1)>(if p0.Y0<p1.Y0 then p1.Y0 else p0.Y0))else some false).bind λj=>some j
def gk(N:Nat)(p0:bU)(p1:Int):aT Bool:=
 some (decide (p0.cO<=p1)&&decide (p1<=p0.To))
def ir(N:Nat)(p0:Z aI)(p1:Int):aT Bool:=
 (iD (λ(j:Int)=>(bif decide (j<(p0.length:Int))then(((idx p0 j).bind λo=>bif o.from_<=p1 then((idx p0 j).bind λaa=>some<|decide<|p1<aa.to)else some false).bind λab=>bif ab then some (.rt true)else some (.nx<|wrap .i64<|j+1))else(some<|.br j):aT (Fl Int Bool))) N 0).bind λad=>ad.cs (λ(j:Int)=>some false)<|λr=>some r
def k8(N:Nat)(p0:Z aI)(p1:Z aI)(p2:Int):aT (Z aI):=
 (iD (λ(aa:Z Int×Int)=>(bif decide (aa.2<(p0.length:Int))then((idx p0 aa.2).bind λae=>(idx p0 aa.2).bind λaf=>(gv N aa.1 ae.from_).bind λag=>(gv N ag af.to).bind λah=>some<|.nx (ah,wrap .i64<|aa.2+1))else(some<|.br (aa.1,aa.2)):aT (Fl (Z Int×Int) Empty))) N (([]:Z Int),0)).bind λai=>ai.cs (λ(aa:Z Int×Int)=>(iD (λ(j:Z Int×Int)=>(bif decide (j.2<(p1.length:Int))then((idx p1 j.2).bind λaj=>(idx p1 j.2).bind λak=>(gv N j.1 aj.from_).bind λal=>(gv N al ak.to).bind λan=>some<|.nx (an,wrap .i64<|j.2+1))else(some<|.br (j.1,j.2)):aT (Fl (Z Int×Int) Empty))) N (aa.1,0)).bind λao=>ao.cs (λ(j:Z Int×Int)=>(iD (λ(o:Z aI×Int)=>(bif decide (o.2<(j.1.length:Int))then((idx j.1<|wrap .i64<|o.2 - 1).bind λaq=>(idx j.1<|wrap .i64<|o.2 - 1).bind λar=>(ir N p0 aq).bind λab=>(ir N p1 ar).bind λad=>(bif(((p2==1)&&(ab||ad))||(((p2==2)&&ab)&&ad))||(((p2==3)&&ab)&&(!ad))then((idx j.1<|wrap .i64<|o.2 - 1).bind λau=>(idx j.1 o.2).bind λav=>(jw N o.1 (⟨au,av⟩:aI)).bind λaw=>some aw)else some o.1).bind λax=>some<|.nx (ax,wrap .i64<|o.2+1))else(some<|.br (o.1,o.2)):aT (Fl (Z aI×Int) Empty))) N (([]:Z aI),1)).bind λay=>ay.cs (λ(o:Z aI×Int)=>some o.1)<|λr=>r.elim)<|λr=>r.elim)<|λr=>r.elim
def iH(N:Nat)(p0:Z aG)(p1:Z aG)(p2:Int):aT (Z aG):=
 (app 32 ([]:Z aG) p0).bind λaa=>(app 32 aa p1).bind λab=>(iV N ab).bind λo=>(iD (λ(j:Z aQ×Int)=>(bif decide (j.2<(o.length:Int))then((idx o<|wrap .i64<|j.2 - 1).bind λad=>(idx o j.2).bind λae=>(idx o<|wrap .i64<|j.2 - 1).bind λaf=>(idx o<|wrap .i64<|j.2 - 1).bind λag=>(iT N p0 af).bind λah=>(iT N p1 ag).bind λai=>(k8 N ah ai p2).bind λaj=>(gR N j.1 (⟨ad,ae,aj⟩:aQ)).bind λak=>some<|.nx (ak,wrap .i64<|j.2+1))else(some<|.br (j.1,j.2)):aT (Fl (Z aQ×Int) Empty))) N (([]:Z aQ),1)).bind λal=>al.cs (λ(j:Z aQ×Int)=>(kj N j.1).bind λan=>some an)<|λr=>r.elim
def lX(N:Nat)(p0:Z aG)(p1:Z aG):aT (Z aG):=
 (iH N p0 p1 3).bind λj=>some j
def hU(N:Nat)(p0:gM)(p1:Int):aT (Z aG):=
 (iD (λ(j:Z aG×Int)=>(bif decide (j.2<(p0.aN.length:Int))then((idx p0.aN j.2).bind λo=>(gk N o p1).bind λaa=>(bif aa then((idx p0.aN j.2).bind λab=>(cV N ab).bind λad=>(app 32 j.1 ([ad]:Z aG)).bind λae=>some ae)else some j.1).bind λaf=>some<|.nx (af,wrap .i64<|j.2+1))else(some<|.br (j.1,j.2)):aT (Fl (Z aG×Int) Empty))) N (([]:Z aG),0)).bind λag=>ag.cs (λ(j:Z aG×Int)=>(idx p0.aL p1).bind λah=>(gu N j.1).bind λai=>(lX N ah ai).bind λaj=>some aj)<|λr=>r.elim
def j7(N:Nat)(p0 p1:aG):aT Bool:=
 some ((decide (wrap .i64 ((if p1.X1<p0.X1 then p1.X1 else p0.X1) -(if p0.X0<p1.X0 then p1.X0 else p0.X0))>0)&&decide (wrap .i64 ((if p1.Y1<p0.Y1 then p1.Y1 else p0.Y1) -(if p0.Y0<p1.Y0 then p1.Y0 else p0.Y0))>=0))||(decide (wrap .i64 ((if p1.X1<p0.X1 then p1.X1 else p0.X1) -(if p0.X0<p1.X0 then p1.X0 else p0.X0))>=0)&&decide (wrap .i64 ((if p1.Y1<p0.Y1 then p1.Y1 else p0.Y1) -(if p0.Y0<p1.Y0 then p1.Y0 else p0.Y0))>0)))
def kH(N:Nat)(p0:Z (Z aG))(p1:Z aG):aT (Z<|Z aG):=
 (iD (λ(j:Int)=>((bif j>0 then((idx p1 0).bind λo=>(idx p0<|wrap .i64<|j - 1).bind λaa=>(idx aa 0).bind λab=>(jv N o ab).bind λad=>some ad)else some false).bind λae=>bif ae then some (.nx<|wrap .i64<|j - 1)else(some<|.br j):aT (Fl Int Empty))) N (p0.length:Int)).bind λaf=>af.cs (λ(j:Int)=>(vB p0 0 j).bind λag=>(app 24 ([]:Z (Z aG)) ag).bind λah=>(app 24 ah ([p1]:Z (Z aG))).bind λai=>(vB p0 j (p0.length:Int)).bind λaj=>(app 24 ai aj).bind λak=>some ak)<|λr=>r.elim
def gE(N:Nat)(p0:Z aG):aT (Z<|Z aG):=
 (mk 1 (false:Bool) (p0.length:Int)).bind λad=>(iD (λ(o:Z Bool×Z (Z aG)×Int)=>(bif decide (o.2.2<(p0.length:Int))then((idx o.1 o.2.2).bind λae=>bif ae then some (.nx (o.1,o.2.1,wrap .i64<|o.2.2+1))else((idx o.1 o.2.2).bind λaw=>(idx p0 o.2.2).bind λaf=>(iD (λ(aa:Z Bool×Z aG×Int)=>(bif decide (aa.2.2<(aa.2.1.length:Int))then((iD (λ(j:Z Bool×Z aG×Int)=>(bif decide (j.2.2<(p0.length:Int))then(((idx j.1 j.2.2).bind λag=>bif(!ag)then((idx j.2.1 aa.2.2).bind λah=>(idx p0 j.2.2).bind λai=>(j7 N ah ai).bind λaj=>some aj)else some false).bind λak=>(bif ak then((idx j.1 j.2.2).bind λax=>(idx p0 j.2.2).bind λal=>(app 32 j.2.1 ([al]:Z aG)).bind λan=>some (j.1.set (Int.toNat j.2.2) true,an))else some (j.1,j.2.1)).bind λab=>some<|.nx (ab.1,ab.2,wrap .i64<|j.2.2+1))else(some<|.br (j.1,j.2.1,j.2.2)):aT (Fl (Z Bool×Z aG×Int) Empty))) N (aa.1,aa.2.1,0)).bind λao=>ao.cs (λ(j:Z Bool×Z aG×Int)=>some<|.nx (j.1,j.2.1,wrap .i64<|aa.2.2+1))<|λr=>r.elim)else(some<|.br (aa.1,aa.2.1,aa.2.2)):aT (Fl (Z Bool×Z aG×Int) Empty))) N (o.1.set (Int.toNat o.2.2) true,([af]:Z aG),0)).bind λaq=>aq.cs (λ(aa:Z Bool×Z aG×Int)=>(gu N aa.2.1).bind λar=>(kH N o.2.1 ar).bind λau=>some<|.nx (aa.1,au,wrap .i64<|o.2.2+1))<|λr=>r.elim))else(some<|.br (o.1,o.2.1,o.2.2)):aT (Fl (Z Bool×Z (Z aG)×Int) Empty))) N (ad,([]:Z (Z aG)),0)).bind λav=>av.cs (λ(o:Z Bool×Z (Z aG)×Int)=>some o.2.1)<|λr=>r.elim
def eH(N:Nat)(p0:gM):aT Int:=
 (i5 N p0).bind λab=>bif ab != 0 then some ab else((iD (λ(o:Int)=>(bif decide (o<(p0.aN.length:Int))then((iD (λ(aa:Int)=>(bif aa<o then(((idx p0.aN o).bind λae=>(idx p0.aN aa).bind λaf=>(jz N ae af).bind λag=>bif ag then((idx p0.aN o).bind λah=>(idx p0.aN aa).bind λai=>(cV N ah).bind λaj=>(cV N ai).bind λak=>(gT N aj ak).bind λal=>some al)else some false).bind λan=>bif an then some (.rt 12)else some (.nx<|wrap .i64<|aa+1))else(some<|.br aa):aT (Fl Int Int))) N 0).bind λao=>ao.cs (λ(aa:Int)=>some<|.nx<|wrap .i64<|o+1)<|λr=>some<|.rt r)else(some<|.br o):aT (Fl Int Int))) N 0).bind λaq=>aq.cs (λ(o:Int)=>(iD (λ(j:Int×Int)=>(bif decide (j.2<(p0.aL.length:Int))then((hU N p0 j.2).bind λad=>bif decide ((ad.length:Int)>2000)then some (.rt 2)else((gE N ad).bind λar=>some<|.nx (wrap .i64<|j.1+(ar.length:Int),wrap .i64<|j.2+1)))else(some<|.br (j.1,j.2)):aT (Fl (Int×Int) Int))) N (0,0)).bind λau=>au.cs (λ(j:Int×Int)=>bif j.1>2000 then some 2 else some 0)<|λr=>some r)<|λr=>some r)
def fE(N:Nat)(p0:gM)(p1:eG):aT Int:=
 (iD (λ(j:Int)=>(bif decide (j<(p0.bO.length:Int))then(((idx p0.bO j).bind λo=>bif o.Part.wF p1.Part then((idx p0.bO j).bind λaa=>some<|aa.eG.wF p1.eG)else some false).bind λab=>bif ab then some (.rt j)else some (.nx<|wrap .i64<|j+1))else(some<|.br j):aT (Fl Int Int))) N 0).bind λad=>ad.cs (λ(j:Int)=>some<|-1)<|λr=>some r
def iR(N:Nat)(p0 p1:eG):aT Bool:=
 some (p0.Part.wc p1.Part||(p0.Part.wF p1.Part&&p0.eG.wc p1.eG))
def jA(N:Nat)(p0 p1:Test):aT Bool:=
 ((iR N p0.A p1.A).bind λj=>bif j then some true else(bif p0.A=p1.A then((iR N p0.B p1.B).bind λo=>some o)else some false)).bind λaa=>some aa
def dA(N:Nat)(p0:gM)(p1:Z Test):aT Int:=
 (eH N p0).bind λo=>bif o != 0 then some o else(bif decide ((p1.length:Int)>2000)then some 2 else((iD (λ(j:Int)=>(bif decide (j<(p1.length:Int))then(((idx p1 j).bind λaa=>(fE N p0 aa.A).bind λab=>bif ab<0 then some true else((idx p1 j).bind λad=>(fE N p0 ad.B).bind λae=>some<|decide<|ae<0)).bind λaf=>bif af then some (.rt 9)else(((idx p1 j).bind λag=>(idx p1 j).bind λah=>(iR N ag.A ah.B).bind λai=>bif(!ai)then some true else(bif j>0 then((idx p1<|wrap .i64<|j - 1).bind λaj=>(idx p1 j).bind λak=>(jA N aj ak).bind λal=>some<|!al)else some false)).bind λan=>bif an then some (.rt 8)else some (.nx<|wrap .i64<|j+1)))else(some<|.br j):aT (Fl Int Int))) N 0).bind λao=>ao.cs (λ(j:Int)=>some 0)<|λr=>some r))
def lY(N:Nat)(p0 p1 p2:Int):aT Bool:=
 some (decide (p0>=p1)&&decide (p0<=p2))
def kl(N:Nat)(p0:Z aG)(p1:aG):aT Bool:=
 (iD (λ(j:Int)=>(bif decide (j<(p0.length:Int))then((idx p0 j).bind λo=>(idx p0 j).bind λaa=>(idx p0 j).bind λab=>(idx p0 j).bind λad=>bif(decide (wrap .i64 ((if p1.X1<o.X1 then p1.X1 else o.X1) -(if aa.X0<p1.X0 then p1.X0 else aa.X0))>0)&&(wrap .i64 ((if p1.Y1<ab.Y1 then p1.Y1 else ab.Y1) -(if ad.Y0<p1.Y0 then p1.Y0 else ad.Y0))==0))||((wrap .i64 ((if p1.X1<o.X1 then p1.X1 else o.X1) -(if aa.X0<p1.X0 then p1.X0 else aa.X0))==0)&&decide (wrap .i64 ((if p1.Y1<ab.Y1 then p1.Y1 else ab.Y1) -(if ad.Y0<p1.Y0 then p1.Y0 else ad.Y0))>0))then some (.rt true)else some (.nx<|wrap .i64<|j+1))else(some<|.br j):aT (Fl Int Bool))) N 0).bind λae=>ae.cs (λ(j:Int)=>some false)<|λr=>some r
def cS(N:Nat)(p0:Z Int)(p1:Int):aT Bool:=
 (iD (λ(j:Int)=>(bif decide (j<(p0.length:Int))then((idx p0 j).bind λo=>bif o==p1 then some (.rt true)else some (.nx<|wrap .i64<|j+1))else(some<|.br j):aT (Fl Int Bool))) N 0).bind λaa=>aa.cs (λ(j:Int)=>some false)<|λr=>some r
def jB(N:Nat)(p0:Z Int)(p1:Int):aT (Z Int):=
 (iD (λ(j:Int)=>((bif j>0 then((idx p0<|wrap .i64<|j - 1).bind λo=>some<|decide<|o>p1)else some false).bind λaa=>bif aa then some (.nx<|wrap .i64<|j - 1)else(some<|.br j):aT (Fl Int Empty))) N (p0.length:Int)).bind λab=>ab.cs (λ(j:Int)=>(bif j>0 then((idx p0<|wrap .i64<|j - 1).bind λad=>some<|ad==p1)else some false).bind λae=>bif ae then some p0 else((vB p0 0 j).bind λaf=>(app 8 ([]:Z Int) af).bind λag=>(app 8 ag ([p1]:Z Int)).bind λah=>(vB p0 j (p0.length:Int)).bind λai=>(app 8 ah ai).bind λaj=>some aj))<|λr=>r.elim
def iu(N:Nat)(p0_7:Z (Z Int))(p1:Int)(p2:Z Bool):aT ((Z Int×Z Int×Z eG)×Z Bool):=
 (idx p2 p1).bind λax=>(mk 1 (false:Bool) (p0_7.length:Int)).bind λae=>(iD (λ(o:Z Bool×Z Int×Z Int×Z Bool×Z Int×Int)=>(bif decide (o.2.2.2.2.2<(o.2.2.2.2.1.length:Int))then((iD (λ(j:Z Bool×Z Int×Z Int×Z Bool×Z Int×Int)=>(bif decide (j.2.2.2.2.2<(p0_7.length:Int))then(((idx j.2.2.2.1 j.2.2.2.2.2).bind λaf=>bif af then some true else((idx p0_7 j.2.2.2.2.2).bind λag=>(idx j.2.2.2.2.1 o.2.2.2.2.2).bind λah=>(cS N ag ah).bind λai=>some<|!ai)).bind λaj=>bif aj then some (.nx (j.1,j.2.1,j.2.2.1,j.2.2.2.1,j.2.2.2.2.1,wrap .i64<|j.2.2.2.2.2+1))else((idx j.2.2.2.1 j.2.2.2.2.2).bind λay=>(jB N j.2.2.1 j.2.2.2.2.2).bind λak=>(iD (λ(aa:Z Bool×Z Int×Z Int×Int)=>((idx p0_7 j.2.2.2.2.2).bind λal=>bif decide (aa.2.2.2<(al.length:Int))then((idx p0_7 j.2.2.2.2.2).bind λan=>(idx an aa.2.2.2).bind λab=>(idx aa.1 ab).bind λao=>(bif(!ao)then((idx aa.1 ab).bind λaz=>(jB N aa.2.1 ab).bind λaq=>(app 8 aa.2.2.1 ([ab]:Z Int)).bind λar=>some (aa.1.set (Int.toNat ab) true,aq,ar))else some (aa.1,aa.2.1,aa.2.2.1)).bind λad=>some<|.nx (ad.1,ad.2.1,ad.2.2,wrap .i64<|aa.2.2.2+1))else(some<|.br (aa.1,aa.2.1,aa.2.2.1,aa.2.2.2)):aT (Fl (Z Bool×Z Int×Z Int×Int) Empty))) N (j.1,j.2.1,j.2.2.2.2.1,0)).bind λau=>au.cs (λ(aa:Z Bool×Z Int×Z Int×Int)=>some<|.nx (aa.1,aa.2.1,ak,j.2.2.2.1.set (Int.toNat j.2.2.2.2.2) true,aa.2.2.1,wrap .i64<|j.2.2.2.2.2+1))<|λr=>r.elim))else(some<|.br (j.1,j.2.1,j.2.2.1,j.2.2.2.1,j.2.2.2.2.1,j.2.2.2.2.2)):aT (Fl (Z Bool×Z Int×Z Int×Z Bool×Z Int×Int) Empty))) N (o.1,o.2.1,o.2.2.1,o.2.2.2.1,o.2.2.2.2.1,0)).bind λav=>av.cs (λ(j:Z Bool×Z Int×Z Int×Z Bool×Z Int×Int)=>some<|.nx (j.1,j.2.1,j.2.2.1,j.2.2.2.1,j.2.2.2.2.1,wrap .i64<|o.2.2.2.2.2+1))<|λr=>r.elim)else(some<|.br (o.1,o.2.1,o.2.2.1,o.2.2.2.1,o.2.2.2.2.1,o.2.2.2.2.2)):aT (Fl (Z Bool×Z Int×Z Int×Z Bool×Z Int×Int) Empty))) N (p2.set (Int.toNat p1) true,([p1]:Z Int),([]:Z Int),ae,([p1]:Z Int),0)).bind λaw=>aw.cs (λ(o:Z Bool×Z Int×Z Int×Z Bool×Z Int×Int)=>some ((o.2.1,o.2.2.1,([]:Z eG)),o.1))<|λr=>r.elim
def fP(N:Nat)(p0:Z aG)(p1:dW):aT Bool:=
 (iT N p0 p1.Y).bind λj=>(ir N j p1.X).bind λo=>some o
def gz(N:Nat)(p0_2:Z bU)(p0_4:Z Int)(p0_5:Z (Z aG))(p1:cX):aT (dZ×Bool):=
 (iD (λ(o:Int)=>(bif decide (o<(p0_5.length:Int))then(((idx p0_4 o).bind λaa=>bif aa==p1.cM then((idx p0_5 o).bind λab=>(fP N ab p1.At).bind λad=>some ad)else some false).bind λae=>bif ae then some (.rt ((⟨false,o⟩:dZ),true))else some (.nx<|wrap .i64<|o+1))else(some<|.br o):aT (Fl Int<|dZ×Bool))) N 0).bind λaf=>af.cs (λ(o:Int)=>(iD (λ(j:Int)=>(bif decide (j<(p0_2.length:Int))then(((idx p0_2 j).bind λag=>bif ag.fJ then((idx p0_2 j).bind λah=>(gk N ah p1.cM).bind λai=>bif ai then((idx p0_2 j).bind λaj=>(cV N aj).bind λak=>(fP N ([ak]:Z aG) p1.At).bind λal=>some al)else some false)else some false).bind λan=>bif an then some (.rt ((⟨true,j⟩:dZ),true))else some (.nx<|wrap .i64<|j+1))else(some<|.br j):aT (Fl Int<|dZ×Bool))) N 0).bind λao=>ao.cs (λ(j:Int)=>some ((⟨false,0⟩:dZ),false))<|λr=>some r)<|λr=>some r
def dS(N:Nat)(p0_6:Z bZ)(p1:dZ):aT Int:=
 (iD (λ(j:Int)=>(bif decide (j<(p0_6.length:Int))then((bif p1.bU then((idx p0_6 j).bind λo=>(cS N o.aN p1.Number).bind λaa=>bif aa then some true else(bif(!p1.bU)then((idx p0_6 j).bind λab=>(cS N ab.fN p1.Number).bind λad=>some ad)else some false))else(bif(!p1.bU)then((idx p0_6 j).bind λae=>(cS N ae.fN p1.Number).bind λaf=>some af)else some false)).bind λag=>bif ag then some (.rt j)else some (.nx<|wrap .i64<|j+1))else(some<|.br j):aT (Fl Int Int))) N 0).bind λah=>ah.cs (λ(j:Int)=>some<|-1)<|λr=>some r
def fG(N:Nat)(p0_2:Z bU)(p0_4:Z Int)(p0_5:Z (Z aG))(p0_6:Z bZ)(p1:cX):aT Int:=
 (gz N p0_2 p0_4 p0_5 p1).bind λj=>bif(!j.2)then some (-1)else((dS N p0_6 j.1).bind λo=>some o)
def ga(N:Nat)(p0_2:Z bU)(p0_3:Z cX)(p0_4:Z Int)(p0_5:Z (Z aG))(p0_7:Z (Z Int)):aT (Z bZ):=
 (mk 1 (false:Bool) (p0_5.length:Int)).bind λag=>(iD (λ(j:Z bZ×Z Bool×Int)=>(bif decide (j.2.2<(p0_5.length:Int))then((idx j.2.1 j.2.2).bind λah=>(bif(!ah)then((iu N p0_7 j.2.2 j.2.1).bind λab=>(app 72 j.1 [(⟨ab.1.1,ab.1.2.1,ab.1.2.2⟩:bZ)]).bind λai=>some (ai,ab.2))else some (j.1,j.2.1)).bind λaf=>some<|.nx (af.1,af.2,wrap .i64<|j.2.2+1))else(some<|.br (j.1,j.2.1,j.2.2)):aT (Fl (Z bZ×Z Bool×Int) Empty))) N (([]:Z bZ),ag,0)).bind λaj=>aj.cs (λ(j:Z bZ×Z Bool×Int)=>(iD (λ(aa:Z bZ×Int)=>(bif decide (aa.2<(p0_7.length:Int))then(((idx p0_2 aa.2).bind λak=>bif ak.fJ then((idx p0_7 aa.2).bind λal=>some<|(al.length:Int)==0)else some false).bind λan=>(bif an then((app 72 aa.1 [(⟨([]:Z Int),([aa.2]:Z Int),([]:Z eG)⟩:bZ)]).bind λy7=>some y7)else some aa.1).bind λao=>some<|.nx (ao,wrap .i64<|aa.2+1))else(some<|.br (aa.1,aa.2)):aT (Fl (Z bZ×Int) Empty))) N (j.1,0)).bind λaq=>aq.cs (λ(aa:Z bZ×Int)=>(iD (λ(o:Z bZ×Int)=>(bif decide (o.2<(p0_3.length:Int))then((idx p0_3 o.2).bind λae=>(fG N p0_2 p0_4 p0_5 o.1 ae).bind λad=>(bif ad>=0 then((idx o.1 ad).bind λar=>(app 32 ar.fB ([(⟨ae.Part,ae.eG⟩:eG)]:Z eG)).bind λau=>(idx o.1 ad).bind λav=>some<|o.1.set (Int.toNat ad) {av with fB:=au})else some o.1).bind λaw=>some<|.nx (aw,wrap .i64<|o.2+1))else(some<|.br (o.1,o.2)):aT (Fl (Z bZ×Int) Empty))) N (aa.1,0)).bind λax=>ax.cs (λ(o:Z bZ×Int)=>some o.1)<|λr=>r.elim)<|λr=>r.elim)<|λr=>r.elim
def kd(N:Nat)(p0:gM):aT (Z (Z aG)×Z aG×Z bU×Z cX×Z Int×Z (Z aG)×Z bZ×Z (Z Int)):=
 (iD (λ(j:Z Int×Z (Z aG)×Int)=>(bif decide (j.2.2<(p0.aL.length:Int))then((hU N p0 j.2.2).bind λae=>(gE N ae).bind λad=>(iD (λ(o:Z Int×Z (Z aG)×Int)=>(bif decide (o.2.2<(ad.length:Int))then((app 8 o.1 ([j.2.2]:Z Int)).bind λaf=>(idx ad o.2.2).bind λag=>(app 24 o.2.1 ([ag]:Z (Z aG))).bind λah=>some<|.nx (af,ah,wrap .i64<|o.2.2+1))else(some<|.br (o.1,o.2.1,o.2.2)):aT (Fl (Z Int×Z (Z aG)×Int) Empty))) N (j.1,j.2.1,0)).bind λai=>ai.cs (λ(o:Z Int×Z (Z aG)×Int)=>some<|.nx (o.1,o.2.1,wrap .i64<|j.2.2+1))<|λr=>r.elim)else(some<|.br (j.1,j.2.1,j.2.2)):aT (Fl (Z Int×Z (Z aG)×Int) Empty))) N (([]:Z Int),([]:Z (Z aG)),0)).bind λaj=>aj.cs (λ(j:Z Int×Z (Z aG)×Int)=>(iD (λ(aa:Z (Z Int)×Int)=>(bif decide (aa.2<(p0.aN.length:Int))then((iD (λ(ab:Z Int×Int)=>((bif decide (ab.2<(j.2.1.length:Int))then((idx p0.aN aa.2).bind λak=>some ak.fJ)else some false).bind λal=>bif al then(((idx p0.aN aa.2).bind λan=>(idx j.1 ab.2).bind λao=>(gk N an ao).bind λaq=>bif aq then((idx j.2.1 ab.2).bind λar=>(idx p0.aN aa.2).bind λau=>(cV N au).bind λav=>(kl N ar av).bind λaw=>some aw)else some false).bind λax=>(bif ax then((app 8 ab.1 ([ab.2]:Z Int)).bind λay=>some ay)else some ab.1).bind λaz=>some<|.nx (az,wrap .i64<|ab.2+1))else(some<|.br (ab.1,ab.2)):aT (Fl (Z Int×Int) Empty))) N (([]:Z Int),0)).bind λa0=>a0.cs (λ(ab:Z Int×Int)=>(app 24 aa.1 ([ab.1]:Z (Z Int))).bind λa1=>some<|.nx (a1,wrap .i64<|aa.2+1))<|λr=>r.elim)else(some<|.br (aa.1,aa.2)):aT (Fl (Z (Z Int)×Int) Empty))) N (([]:Z (Z Int)),0)).bind λa2=>a2.cs (λ(aa:Z (Z Int)×Int)=>(ga N p0.aN p0.bO j.1 j.2.1 aa.1).bind λa3=>some (p0.aL,p0.cQ,p0.aN,p0.bO,j.1,j.2.1,a3,aa.1))<|λr=>r.elim)<|λr=>r.elim
def jX(N:Nat)(p0_5:Z (Z aG))(p0_6:Z bZ):aT (Z Int):=
 (mk 8 (0:Int) (p0_5.length:Int)).bind λab=>(iD (λ(j:Z Int×Int)=>(bif decide (j.2<(p0_6.length:Int))then((iD (λ(o:Z Int×Int)=>((idx p0_6 j.2).bind λad=>bif decide (o.2<(ad.fN.length:Int))then((idx p0_6 j.2).bind λae=>(idx ae.fN o.2).bind λaa=>(idx o.1 aa).bind λah=>some<|.nx (o.1.set (Int.toNat aa) j.2,wrap .i64<|o.2+1))else(some<|.br (o.1,o.2)):aT (Fl (Z Int×Int) Empty))) N (j.1,0)).bind λaf=>af.cs (λ(o:Z Int×Int)=>some<|.nx (o.1,wrap .i64<|j.2+1))<|λr=>r.elim)else(some<|.br (j.1,j.2)):aT (Fl (Z Int×Int) Empty))) N (ab,0)).bind λag=>ag.cs (λ(j:Z Int×Int)=>some j.1)<|λr=>r.elim
def eV(N:Nat)(p0_6:Z bZ)(p1:dZ):aT Int:=
 (iD (λ(j:Int)=>(bif decide (j<(p0_6.length:Int))then((bif p1.bU then((idx p0_6 j).bind λo=>(cS N o.aN p1.Number).bind λaa=>bif aa then some true else(bif(!p1.bU)then((idx p0_6 j).bind λab=>(cS N ab.fN p1.Number).bind λad=>some ad)else some false))else(bif(!p1.bU)then((idx p0_6 j).bind λae=>(cS N ae.fN p1.Number).bind λaf=>some af)else some false)).bind λag=>bif ag then some (.rt j)else some (.nx<|wrap .i64<|j+1))else(some<|.br j):aT (Fl Int Int))) N 0).bind λah=>ah.cs (λ(j:Int)=>some<|-1)<|λr=>some r
def kS(N:Nat)(p0 p1:Int)(p2 p3:Int):aT Int:=
 some (if(if 0<(wrap .i64<|p2 -(wrap .i64<|p1 - 1))then wrap .i64 (p2 -(wrap .i64<|p1 - 1))else 0)<(wrap .i64<|p0 -(wrap .i64<|p3 - 1))then wrap .i64 (p0 -(wrap .i64<|p3 - 1))else(if 0<(wrap .i64<|p2 -(wrap .i64<|p1 - 1))then wrap .i64 (p2 -(wrap .i64<|p1 - 1))else 0))
def iI(N:Nat)(p0 p1:aG):aT Int:=
 (kS N p0.X0 p0.X1 p1.X0 p1.X1).bind λj=>(kS N p0.Y0 p0.Y1 p1.Y0 p1.Y1).bind λo=>some (if j<o then o else j)
def i6(N:Nat)(p0:Z aG)(p1:Z aG):aT Int:=
 (idx p0 0).bind λab=>(idx p1 0).bind λad=>(iI N ab ad).bind λae=>(iD (λ(o:Int×Int)=>(bif decide (o.2<(p0.length:Int))then((iD (λ(j:Int×Int)=>(bif decide (j.2<(p1.length:Int))then((idx p0 o.2).bind λaf=>(idx p1 j.2).bind λag=>(iI N af ag).bind λaa=>some<|.nx ((if aa<j.1 then aa else j.1),wrap .i64<|j.2+1))else(some<|.br (j.1,j.2)):aT (Fl (Int×Int) Empty))) N (o.1,0)).bind λah=>ah.cs (λ(j:Int×Int)=>some<|.nx (j.1,wrap .i64<|o.2+1))<|λr=>r.elim)else(some<|.br (o.1,o.2)):aT (Fl (Int×Int) Empty))) N (ae,0)).bind λai=>ai.cs (λ(o:Int×Int)=>some o.1)<|λr=>r.elim
def iW(N:Nat)(p0:Z aG)(p1:Z aG)(p2:Int):aT (dW×Bool):=
 (iD (λ(o:dW×Bool×Int)=>(bif decide (o.2.2<(p0.length:Int))then((iD (λ(j:dW×Bool×Int)=>(bif decide (j.2.2<(p1.length:Int))then((idx p0 o.2.2).bind λad=>(idx p1 j.2.2).bind λae=>(idx p0 o.2.2).bind λaa=>(idx p1 j.2.2).bind λab=>((idx p0 o.2.2).bind λaf=>(idx p1 j.2.2).bind λag=>bif(if ad.X0<(wrap .i64<|ae.X0 - p2)then wrap .i64 (ae.X0 - p2)else ad.X0)>(wrap .i64<|(if wrap .i64 (ag.X1+p2)<af.X1 then wrap .i64 (ag.X1+p2)else af.X1) - 1)then some true else((idx p0 o.2.2).bind λah=>(idx p1 j.2.2).bind λai=>some<|decide<|(if aa.Y0<(wrap .i64<|ab.Y0 - p2)then wrap .i64 (ab.Y0 - p2)else aa.Y0)> wrap .i64 ((if wrap .i64 (ai.Y1+p2)<ah.Y1 then wrap .i64 (ai.Y1+p2)else ah.Y1) - 1))).bind λak=>bif ak then some (.nx (j.1,j.2.1,wrap .i64<|j.2.2+1))else((bif((!j.2.1)||decide ((if aa.Y0<(wrap .i64<|ab.Y0 - p2)then wrap .i64 (ab.Y0 - p2)else aa.Y0)<j.1.Y))||(((if aa.Y0<(wrap .i64<|ab.Y0 - p2)then wrap .i64 (ab.Y0 - p2)else aa.Y0)==j.1.Y)&&decide ((if ad.X0<(wrap .i64<|ae.X0 - p2)then wrap .i64 (ae.X0 - p2)else ad.X0)<j.1.X))then some ((⟨(if ad.X0<(wrap .i64<|ae.X0 - p2)then wrap .i64 (ae.X0 - p2)else ad.X0),(if aa.Y0<(wrap .i64<|ab.Y0 - p2)then wrap .i64 (ab.Y0 - p2)else aa.Y0)⟩:dW),true)else some (j.1,j.2.1)).bind λaj=>some<|.nx (aj.1,aj.2,wrap .i64<|j.2.2+1)))else(some<|.br (j.1,j.2.1,j.2.2)):aT (Fl (dW×Bool×Int) Empty))) N (o.1,o.2.1,0)).bind λal=>al.cs (λ(j:dW×Bool×Int)=>some<|.nx (j.1,j.2.1,wrap .i64<|o.2.2+1))<|λr=>r.elim)else(some<|.br (o.1,o.2.1,o.2.2)):aT (Fl (dW×Bool×Int) Empty))) N ((⟨0,0⟩:dW),false,0)).bind λan=>an.cs (λ(o:dW×Bool×Int)=>some (o.1,o.2.1))<|λr=>r.elim
def j8(N:Nat)(p0:Z aG)(p1:Z aG):aT we:=
 (i6 N p0 p1).bind λo=>(iW N p0 p1 o).bind λj=>(iW N p1 ([(⟨j.1.X,j.1.Y,wrap .i64<|j.1.X+1,wrap .i64<|j.1.Y+1⟩:aG)]:Z aG) o).bind λaa=>some (⟨0,0,wrap .i64<|o - 1,j.1,aa.1⟩:we)
def ke(N:Nat)(p0_2:Z bU)(p0_4:Z Int)(p0_5:Z (Z aG))(p0_6:Z bZ)(p1:Int):aT (Z bL):=
 (jX N p0_5 p0_6).bind λad=>(iD (λ(ab:Z bL×Int)=>(bif decide (ab.2<(p0_5.length:Int))then((idx ad ab.2).bind λae=>(idx p0_6 ae).bind λaf=>(bif decide ((af.fB.length:Int)>=2)then((app 40 ab.1 ([(⟨true,(⟨false,ab.2⟩:dZ),0,0⟩:bL)]:Z bL)).bind λag=>some ag)else some ab.1).bind λah=>some<|.nx (ah,wrap .i64<|ab.2+1))else(some<|.br (ab.1,ab.2)):aT (Fl (Z bL×Int) Empty))) N (([]:Z bL),0)).bind λai=>ai.cs (λ(ab:Z bL×Int)=>(iD (λ(aa:Z bL×Int)=>(bif decide (aa.2<(p0_2.length:Int))then(((idx p0_2 aa.2).bind λaj=>bif aj.fJ then((eV N p0_6 (⟨true,aa.2⟩:dZ)).bind λak=>(idx p0_6 ak).bind λy7=>some<|decide<|(y7.fB.length:Int)>=2)else some false).bind λal=>(bif al then((app 40 aa.1 ([(⟨true,(⟨true,aa.2⟩:dZ),0,0⟩:bL)]:Z bL)).bind λan=>some an)else some aa.1).bind λao=>some<|.nx (ao,wrap .i64<|aa.2+1))else(some<|.br (aa.1,aa.2)):aT (Fl (Z bL×Int) Empty))) N (ab.1,0)).bind λaq=>aq.cs (λ(aa:Z bL×Int)=>(iD (λ(j:Z bL×Int)=>(bif decide (j.2<(p0_5.length:Int))then((iD (λ(o:Z bL×Int)=>(bif decide (o.2<(p0_5.length:Int))then(((idx p0_4 j.2).bind λar=>(idx p0_4 o.2).bind λau=>bif ar==au then((idx ad j.2).bind λav=>(idx ad o.2).bind λaw=>bif av != aw then((idx p0_5 j.2).bind λax=>(idx p0_5 o.2).bind λay=>(j8 N ax ay).bind λaz=>some<|decide<|az.iX<p1)else some false)else some false).bind λa0=>(bif a0 then((app 40 o.1 ([(⟨false,⟨false,0⟩,j.2,o.2⟩:bL)]:Z bL)).bind λa1=>some a1)else some o.1).bind λa2=>some<|.nx (a2,wrap .i64<|o.2+1))else(some<|.br (o.1,o.2)):aT (Fl (Z bL×Int) Empty))) N (j.1,wrap .i64<|j.2+1)).bind λa3=>a3.cs (λ(o:Z bL×Int)=>some<|.nx (o.1,wrap .i64<|j.2+1))<|λr=>r.elim)else(some<|.br (j.1,j.2)):aT (Fl (Z bL×Int) Empty))) N (aa.1,0)).bind λa4=>a4.cs (λ(j:Z bL×Int)=>some j.1)<|λr=>r.elim)<|λr=>r.elim)<|λr=>r.elim
def gN(N:Nat)(p0:Int)(p1:gM)(p2:Int):aT (aT (Z (Z aG)×Z aG×Z bU×Z cX×Z Int×Z (Z aG)×Z bZ×Z (Z Int))×Z bL×Int):=
 bif p0 != 0 then some (none,([]:Z bL),p0)else((lY N p2 0 100000).bind λaa=>bif(!aa)then some (none,([]:Z bL),1)else((kd N p1).bind λj=>(ke N j.2.2.1 j.2.2.2.2.1 j.2.2.2.2.2.1 j.2.2.2.2.2.2.1 p2).bind λo=>bif decide ((o.length:Int)>20000)then some (none,([]:Z bL),2)else some (some (j.1,j.2.1,j.2.2.1,j.2.2.2.1,j.2.2.2.2.1,j.2.2.2.2.2.1,j.2.2.2.2.2.2.1,j.2.2.2.2.2.2.2),o,0)))
def gl(N:Nat)(p0_5:Z (Z aG))(p1:dZ):aT Int:=
 bif p1.bU then some (wrap .i64<|(p0_5.length:Int)+p1.Number)else some p1.Number
def gY(N:Nat)(p0_7:Z (Z Int))(p1:Int):aT (Z Int):=
 (idx p0_7 p1).bind λj=>some j
def gO(N:Nat)(p0:Z Int)(p1 p2:Int):aT (Z Int):=
 (idx p0 p1).bind λo=>(idx p0 p2).bind λaa=>(iD (λ(j:Z Int×Int)=>(bif decide (j.2<(j.1.length:Int))then((idx j.1 j.2).bind λab=>(bif ab==aa then((idx j.1 j.2).bind λaf=>some<|j.1.set (Int.toNat j.2) o)else some j.1).bind λad=>some<|.nx (ad,wrap .i64<|j.2+1))else(some<|.br (j.1,j.2)):aT (Fl (Z Int×Int) Empty))) N (p0,0)).bind λae=>ae.cs (λ(j:Z Int×Int)=>some j.1)<|λr=>r.elim
def fQ(N:Nat)(p0_2:Z bU)(p0_3:Z cX)(p0_4:Z Int)(p0_5:Z (Z aG))(p0_7:Z (Z Int))(p1:Z bL):aT (Z Int):=
 (mk 1 (false:Bool)<|wrap .i64<|(p0_5.length:Int)+(p0_2.length:Int)).bind λai=>(iD (λ(j:Z Bool×Int)=>(bif decide (j.2<(p1.length:Int))then((idx p1 j.2).bind λaj=>(bif aj.Open then((idx p1 j.2).bind λak=>(gl N p0_5 ak.dZ).bind λah=>(idx j.1 ah).bind λbp=>some<|j.1.set (Int.toNat ah) true)else some j.1).bind λal=>some<|.nx (al,wrap .i64<|j.2+1))else(some<|.br (j.1,j.2)):aT (Fl (Z Bool×Int) Empty))) N (ai,0)).bind λan=>an.cs (λ(j:Z Bool×Int)=>(mk 8 (0:Int) (j.1.length:Int)).bind λao=>(iD (λ(aa:Z Int×Int)=>(bif decide (aa.2<(aa.1.length:Int))then((idx aa.1 aa.2).bind λbq=>some<|.nx (aa.1.set (Int.toNat aa.2) aa.2,wrap .i64<|aa.2+1))else(some<|.br (aa.1,aa.2)):aT (Fl (Z Int×Int) Empty))) N (ao,0)).bind λaq=>aq.cs (λ(aa:Z Int×Int)=>(iD (λ(ab:Z Int×Int)=>(bif decide (ab.2<(p0_2.length:Int))then((gY N p0_7 ab.2).bind λaf=>(iD (λ(ad:Z Int×Int)=>(bif decide (ad.2<(af.length:Int))then(((idx j.1<|wrap .i64<|(p0_5.length:Int)+ab.2).bind λar=>bif(!ar)then((idx af ad.2).bind λau=>(idx j.1 au).bind λav=>some<|!av)else some false).bind λaw=>(bif aw then((idx af ad.2).bind λax=>(gO N ad.1 (wrap .i64<|(p0_5.length:Int)+ab.2) ax).bind λay=>some ay)else some ad.1).bind λaz=>some<|.nx (az,wrap .i64<|ad.2+1))else(some<|.br (ad.1,ad.2)):aT (Fl (Z Int×Int) Empty))) N (ab.1,0)).bind λa0=>a0.cs (λ(ad:Z Int×Int)=>some<|.nx (ad.1,wrap .i64<|ab.2+1))<|λr=>r.elim)else(some<|.br (ab.1,ab.2)):aT (Fl (Z Int×Int) Empty))) N (aa.1,0)).bind λa1=>a1.cs (λ(ab:Z Int×Int)=>(iD (λ(o:Z Int×Int)=>(bif decide (o.2<(p1.length:Int))then(((idx p1 o.2).bind λa2=>bif(!a2.Open)then((idx p1 o.2).bind λa3=>(idx j.1 a3.A).bind λa4=>bif(!a4)then((idx p1 o.2).bind λa5=>(idx j.1 a5.B).bind λa6=>some<|!a6)else some false)else some false).bind λa7=>(bif a7 then((idx p1 o.2).bind λa8=>(idx p1 o.2).bind λa9=>(gO N o.1 a8.A a9.B).bind λba=>some ba)else some o.1).bind λbb=>some<|.nx (bb,wrap .i64<|o.2+1))else(some<|.br (o.1,o.2)):aT (Fl (Z Int×Int) Empty))) N (ab.1,0)).bind λbc=>bc.cs (λ(o:Z Int×Int)=>(iD (λ(ae:Z Int×Int)=>(bif decide (ae.2<(p0_3.length:Int))then((idx p0_3 ae.2).bind λbd=>(gz N p0_2 p0_4 p0_5 bd).bind λag=>(bif(!ag.2)then some true else((gl N p0_5 ag.1).bind λbf=>(idx j.1 bf).bind λbg=>some bg)).bind λbh=>(bif bh then((app 8 ae.1 ([(-1)]:Z Int)).bind λbj=>some bj)else((gl N p0_5 ag.1).bind λbk=>(idx o.1 bk).bind λbl=>(app 8 ae.1 ([bl]:Z Int)).bind λbm=>some bm)).bind λbn=>some<|.nx (bn,wrap .i64<|ae.2+1))else(some<|.br (ae.1,ae.2)):aT (Fl (Z Int×Int) Empty))) N (([]:Z Int),0)).bind λbo=>bo.cs (λ(ae:Z Int×Int)=>some ae.1)<|λr=>r.elim)<|λr=>r.elim)<|λr=>r.elim)<|λr=>r.elim)<|λr=>r.elim
def fX(N:Nat)(p0:Z Int)(p1 p2:Int):aT Bool:=
 ((idx p0 p1).bind λj=>bif j>=0 then((idx p0 p1).bind λo=>(idx p0 p2).bind λaa=>some<|o==aa)else some false).bind λab=>some ab
def jC(N:Nat)(p0_2:Z bU)(p0_3:Z cX)(p0_4:Z Int)(p0_5:Z (Z aG))(p0_7:Z (Z Int))(p1:bL):aT Bool:=
 (fQ N p0_2 p0_3 p0_4 p0_5 p0_7 ([]:Z bL)).bind λaa=>(fQ N p0_2 p0_3 p0_4 p0_5 p0_7 ([p1]:Z bL)).bind λab=>(iD (λ(j:Z Int×Z Int×Int)=>(bif decide (j.2.2<(j.1.length:Int))then((iD (λ(o:Int)=>(bif o<j.2.2 then((fX N j.1 j.2.2 o).bind λad=>(fX N j.2.1 j.2.2 o).bind λae=>bif ad != ae then some (.rt false)else some (.nx<|wrap .i64<|o+1))else(some<|.br o):aT (Fl Int Bool))) N 0).bind λaf=>af.cs (λ(o:Int)=>some<|.nx (j.1,j.2.1,wrap .i64<|j.2.2+1))<|λr=>some<|.rt r)else(some<|.br (j.1,j.2.1,j.2.2)):aT (Fl (Z Int×Z Int×Int) Bool))) N (aa,ab,0)).bind λag=>ag.cs (λ(j:Z Int×Z Int×Int)=>some true)<|λr=>some r
def iJ(N:Nat)(p0_2:Z bU)(p0_3:Z cX)(p0_4:Z Int)(p0_5:Z (Z aG))(p0_7:Z (Z Int))(p1:Z bL):aT (Z bL):=
 (iD (λ(j:Z bL×Int)=>(bif decide (j.2<(p1.length:Int))then((idx p1 j.2).bind λo=>(jC N p0_2 p0_3 p0_4 p0_5 p0_7 o).bind λaa=>(bif(!aa)then((idx p1 j.2).bind λab=>(app 40 j.1 ([ab]:Z bL)).bind λad=>some ad)else some j.1).bind λae=>some<|.nx (ae,wrap .i64<|j.2+1))else(some<|.br (j.1,j.2)):aT (Fl (Z bL×Int) Empty))) N (([]:Z bL),0)).bind λaf=>af.cs (λ(j:Z bL×Int)=>some j.1)<|λr=>r.elim
def jD(N:Nat)(p0_0:Z (Z aG))(p0_1:Z aG)(p0_2:Z bU)(p0_3:Z cX)(p0_4:Z Int)(p0_5:Z (Z aG))(p0_7:Z (Z Int))(p1:Z Test)(p2:Z bL):aT (Z Bool):=
 (fQ N p0_2 p0_3 p0_4 p0_5 p0_7 p2).bind λo=>(iD (λ(j:Z Int×Z Bool×Int)=>(bif decide (j.2.2<(p1.length:Int))then((idx p1 j.2.2).bind λaa=>(idx p1 j.2.2).bind λab=>(fE N (⟨p0_0,p0_1,p0_2,p0_3⟩:gM) aa.A).bind λad=>(fE N (⟨p0_0,p0_1,p0_2,p0_3⟩:gM) ab.B).bind λae=>(fX N j.1 ad ae).bind λaf=>(app 1 j.2.1 ([af]:Z Bool)).bind λag=>some<|.nx (j.1,ag,wrap .i64<|j.2.2+1))else(some<|.br (j.1,j.2.1,j.2.2)):aT (Fl (Z Int×Z Bool×Int) Empty))) N (o,([]:Z Bool),0)).bind λah=>ah.cs (λ(j:Z Int×Z Bool×Int)=>some j.2.1)<|λr=>r.elim
def i7(N:Nat)(p0:Z Bool)(p1:Z Bool):aT Bool:=
 bif(p0.length:Int) != (p1.length:Int)then some false else((iD (λ(j:Int)=>(bif decide (j<(p0.length:Int))then((idx p0 j).bind λo=>(idx p1 j).bind λaa=>bif o != aa then some (.rt false)else some (.nx<|wrap .i64<|j+1))else(some<|.br j):aT (Fl Int Bool))) N 0).bind λab=>ab.cs (λ(j:Int)=>some true)<|λr=>some r)
def gm(N:Nat)(p0_0:Z (Z aG))(p0_1:Z aG)(p0_2:Z bU)(p0_3:Z cX)(p0_4:Z Int)(p0_5:Z (Z aG))(p0_7:Z (Z Int))(p1:Z bL)(p2:Z Test):aT (Z bL):=
 (jD N p0_0 p0_1 p0_2 p0_3 p0_4 p0_5 p0_7 p2 ([]:Z bL)).bind λo=>(iD (λ(j:Z Bool×Z bL×Int)=>(bif decide (j.2.2<(p1.length:Int))then((vB p1 j.2.2<|wrap .i64<|j.2.2+1).bind λaa=>(jD N p0_0 p0_1 p0_2 p0_3 p0_4 p0_5 p0_7 p2 aa).bind λab=>(i7 N ab j.1).bind λad=>(bif ad then((idx p1 j.2.2).bind λae=>(app 40 j.2.1 ([ae]:Z bL)).bind λaf=>some af)else some j.2.1).bind λag=>some<|.nx (j.1,ag,wrap .i64<|j.2.2+1))else(some<|.br (j.1,j.2.1,j.2.2)):aT (Fl (Z Bool×Z bL×Int) Empty))) N (o,([]:Z bL),0)).bind λah=>ah.cs (λ(j:Z Bool×Z bL×Int)=>some j.2.1)<|λr=>r.elim
def fu(N:Nat)(p0:gM)(p1:Z Test)(p2:Int):aT (Z bL×Int):=
 (dA N p0 p1).bind λaa=>(gN N aa p0 p2).bind λo=>Hi o.1 (bif o.2.2 != 0 then some (([]:Z bL),o.2.2)else none) (λ(j:(Z (Z aG)×Z aG×Z bU×Z cX×Z Int×Z (Z aG)×Z bZ×Z (Z Int)))=>bif o.2.2 != 0 then some (([]:Z bL),o.2.2)else((iJ N j.2.2.1 j.2.2.2.1 j.2.2.2.2.1 j.2.2.2.2.2.1 j.2.2.2.2.2.2.2 o.2.1).bind λab=>(gm N j.1 j.2.1 j.2.2.1 j.2.2.2.1 j.2.2.2.2.1 j.2.2.2.2.2.1 j.2.2.2.2.2.2.2 ab p1).bind λad=>some (ad,0)))
def k9(N:Nat)(p0:Z Test):aT (Z Test):=
 (iD (λ(j:Z Test×Int×Int)=>(bif j.2.1<j.2.2 then((idx j.1 j.2.2).bind λo=>(idx j.1 j.2.1).bind λaa=>(idx j.1 j.2.1).bind λad=>(idx (j.1.set (Int.toNat j.2.1) o) j.2.2).bind λae=>some<|.nx ((j.1.set (Int.toNat j.2.1) o).set (Int.toNat j.2.2) aa,wrap .i64<|j.2.1+1,wrap .i64<|j.2.2 - 1))else(some<|.br (j.1,j.2.1,j.2.2)):aT (Fl (Z Test×Int×Int) Empty))) N (p0,0,wrap .i64<|(p0.length:Int) - 1)).bind λab=>ab.cs (λ(j:Z Test×Int×Int)=>some j.1)<|λr=>r.elim
def oT(N:Nat)(p0:gM)(p1:Z Test)(p2:Int):aT (Z Test×Int):=
 (gL N p0 p1 p2).bind λo=>bif o.2.2 != 0 then some (([]:Z Test),o.2.2)else((mk 8 (0:Int) (o.1.length:Int)).bind λaj=>(kL o.1.length (λ(ad:Nat)(af:Z Int)=>((idx o.1 (ad:Int)).bind λak=>(kL p1.length (λ(ah:Nat)(aa:Z Int)=>((idx ak.AW (ah:Int)).bind λal=>(idx o.2.1 (ah:Int)).bind λan=>(bif al != an then((idx aa (ad:Int)).bind λao=>(idx aa (ad:Int)).bind λa7=>some<|aa.set (Int.toNat (ad:Int))<|wrap .i64<|ao+1)else some aa).bind λaq=>some aq:aT (Z Int))) af).bind λaa=>some aa:aT (Z Int))) aj).bind λaf=>(iD (λ(j:Z Int×Z Test×Int)=>(bif j.2.2>=0 then((kL o.1.length (λ(ai:Nat)(ag:Bool)=>((idx o.1 (ai:Int)).bind λar=>(bif ag then some true else((idx ar.AW j.2.2).bind λau=>(idx o.2.1 j.2.2).bind λav=>bif au != av then((idx j.1 (ai:Int)).bind λaw=>some<|aw==1)else some false)).bind λax=>some ax:aT Bool)) false).bind λag=>bif ag then((idx p1 j.2.2).bind λay=>(app 72 j.2.1 ([ay]:Z Test)).bind λaz=>some<|.nx (j.1,az,wrap .i64<|j.2.2 - 1))else((kL o.1.length (λ(ae:Nat)(ab:Z Int)=>((idx o.1 (ae:Int)).bind λa0=>(idx a0.AW j.2.2).bind λa1=>(idx o.2.1 j.2.2).bind λa2=>(bif a1 != a2 then((idx ab (ae:Int)).bind λa3=>(idx ab (ae:Int)).bind λa8=>some<|ab.set (Int.toNat (ae:Int))<|wrap .i64<|a3 - 1)else some ab).bind λa4=>some a4:aT (Z Int))) j.1).bind λab=>some<|.nx (ab,j.2.1,wrap .i64<|j.2.2 - 1)))else(some<|.br (j.1,j.2.1,j.2.2)):aT (Fl (Z Int×Z Test×Int) Empty))) N (af,([]:Z Test),wrap .i64<|(p1.length:Int) - 1)).bind λa5=>a5.cs (λ(j:Z Int×Z Test×Int)=>(k9 N j.2.1).bind λa6=>some (a6,0))<|λr=>r.elim)
def gq(N:Nat)(p0:gM)(p1:Z Test)(p2:Int):aT (Z Test×Int):=
 (dA N p0 p1).bind λae=>(gN N ae p0 p2).bind λaa=>Hi aa.1 (bif aa.2.2 != 0 then some (([]:Z Test),aa.2.2)else none) (λ(j:(Z (Z aG)×Z aG×Z bU×Z cX×Z Int×Z (Z aG)×Z bZ×Z (Z Int)))=>bif aa.2.2 != 0 then some (([]:Z Test),aa.2.2)else((iJ N j.2.2.1 j.2.2.2.1 j.2.2.2.2.1 j.2.2.2.2.2.1 j.2.2.2.2.2.2.2 aa.2.1).bind λab=>(gm N j.1 j.2.1 j.2.2.1 j.2.2.2.1 j.2.2.2.2.1 j.2.2.2.2.2.1 j.2.2.2.2.2.2.2 ab p1).bind λaf=>(app 72 ([]:Z Test) p1).bind λag=>(iD (λ(o:Z Test×Int)=>(bif o.2>=0 then((vB o.1 0 o.2).bind λah=>(app 72 ([]:Z Test) ah).bind λai=>(vB o.1 (wrap .i64<|o.2+1) (o.1.length:Int)).bind λaj=>(app 72 ai aj).bind λad=>(gm N j.1 j.2.1 j.2.2.1 j.2.2.2.1 j.2.2.2.2.1 j.2.2.2.2.2.1 j.2.2.2.2.2.2.2 ab ad).bind λak=>(bif(ak.length:Int)==(af.length:Int)then some ad else some o.1).bind λal=>some<|.nx (al,wrap .i64<|o.2 - 1))else(some<|.br (o.1,o.2)):aT (Fl (Z Test×Int) Empty))) N (ag,wrap .i64<|(p1.length:Int) - 1)).bind λan=>an.cs (λ(o:Z Test×Int)=>some (o.1,0))<|λr=>r.elim))
def ov(N:Nat)(p0:Z bL)(p1:Z bL):aT Bool:=
 bif(p0.length:Int) != (p1.length:Int)then some false else((vA p0.length (λ(j:Nat)(o:Unit)=>((idx p0 (j:Int)).bind λaa=>(idx p1 (j:Int)).bind λab=>bif(!(decide<|aa=ab))then some (.rt false)else(some<|.nx ()):aT (Fl Unit Bool))) ()).bind λad=>ad.cs (λ(o:Unit)=>some true)<|λr=>some r)
def ox(N:Nat)(p0:Z Test)(p1:Z Test):aT Bool:=
 bif(p0.length:Int) != (p1.length:Int)then some false else((vA p0.length (λ(j:Nat)(o:Unit)=>((idx p0 (j:Int)).bind λaa=>(idx p1 (j:Int)).bind λab=>bif(!(decide<|aa=ab))then some (.rt false)else(some<|.nx ()):aT (Fl Unit Bool))) ()).bind λad=>ad.cs (λ(o:Unit)=>some true)<|λr=>some r)
def lf(N:Nat)(p0:Int)(p1h_5:Z aD):aT Bool:=
 (pG N p0 0<|wrap .i64<|(p1h_5.length:Int) - 1).bind λj=>some j
def rL(N:Nat)(p0:Z bL)(p1:bL):aT Int:=
 (vA p0.length (λ(j:Nat)(o:Unit)=>((idx p0 (j:Int)).bind λaa=>bif p1=aa then some (.rt (j:Int))else(some<|.nx ()):aT (Fl Unit Int))) ()).bind λab=>ab.cs (λ(o:Unit)=>some<|-1)<|λr=>some r
def oU(N:Nat)(p0:Z bL)(p1:bL):aT Bool:=
 (rL N p0 p1).bind λj=>some<|decide<|j>=0
def pH(N:Nat)(p0_0:Z (Z aG))(p0_1:Z aG)(p0_2:Z bU)(p0_3:Z cX)(p0_4:Z (Z aA))(p0_5:Z aD)(p0_6:Z (Z Int))(p0_7:Z bZ)(p0_8:Z Int)(p0_9:Z Int)(p0_10:Z Int)(p0_11:Z dZ)(p1:Z bL):aT Int:=
 bif decide ((p1.length:Int)>20)then some 2 else((vA p1.length (λ(o:Nat)(aa:Unit)=>((idx p1 (o:Int)).bind λj=>(bif j.Open&&((j.A != 0)||(j.B != 0))then some true else(bif(!j.Open)then some (!(decide<|j.dZ=(⟨false,0⟩:dZ)))else some false)).bind λab=>bif ab then some (.rt 3)else(((lf N j.A p0_5).bind λad=>bif ad then((lf N j.B p0_5).bind λae=>some ae)else some false).bind λaf=>(bif j.Open then((lf N j.dZ.Number p0_5).bind λag=>some ag)else some af).bind λah=>(bif j.Open&&j.dZ.bU then(((pG N j.dZ.Number 0<|wrap .i64<|(p0_2.length:Int) - 1).bind λai=>bif ai then((idx p0_2 j.dZ.Number).bind λaj=>some aj.fJ)else some false).bind λak=>some ak)else some ah).bind λal=>bif(!al)then some (.rt 9)else(bif(!j.Open)&&decide (j.B<=j.A)then some (.rt 8)else((vB p1 0 (o:Int)).bind λan=>(oU N an j).bind λao=>bif ao then some (.rt 7)else some (.nx ())))):aT (Fl Unit Int))) ()).bind λaq=>aq.cs (λ(aa:Unit)=>some 0)<|λr=>some r)
def kZ(N:Nat)(p0:gM)(p1:Z bL)(p2 p3:eG):aT (Bool×Int):=
 (jt N p0).bind λo=>Hi o.1 (bif o.2 != 0 then some (false,o.2)else none) (λ(j:(Z (Z aG)×Z aG×Z bU×Z cX×Z (Z aA)×Z aD×Z (Z Int)×Z bZ×Z Int×Z Int×Z Int×Z dZ))=>bif o.2 != 0 then some (false,o.2)else((pH N j.1 j.2.1 j.2.2.1 j.2.2.2.1 j.2.2.2.2.1 j.2.2.2.2.2.1 j.2.2.2.2.2.2.1 j.2.2.2.2.2.2.2.1 j.2.2.2.2.2.2.2.2.1 j.2.2.2.2.2.2.2.2.2.1 j.2.2.2.2.2.2.2.2.2.2.1 j.2.2.2.2.2.2.2.2.2.2.2 p1).bind λad=>bif ad != 0 then some (false,ad)else((fW N p0 p2).bind λaa=>(fW N p0 p3).bind λae=>bif decide (aa<0)||decide (ae<0)then some (false,9)else((fD N j.2.2.1 j.2.2.2.1 j.2.2.2.2.2.1 j.2.2.2.2.2.2.1 j.2.2.2.2.2.2.2.2.2.2.1 j.2.2.2.2.2.2.2.2.2.2.2 p1).bind λab=>((idx ab aa).bind λaf=>bif af>=0 then((idx ab aa).bind λag=>(idx ab ae).bind λah=>some<|ag==ah)else some false).bind λai=>some (ai,0)))))
def kI(N:Nat):aT Bool:=
 (kZ N (⟨([([(⟨0,0,1,1⟩:aG)]:Z aG)]:Z (Z aG)),([]:Z aG),([]:Z bU),([(⟨⟨[97]⟩,⟨[49]⟩,0,⟨0,0⟩⟩:cX)]:Z cX)⟩:gM) ([]:Z bL) (⟨⟨[97]⟩,⟨[49]⟩⟩:eG) (⟨⟨[97]⟩,⟨[49]⟩⟩:eG)).bind λj=>some<|(j.2==0)&&j.1
def dX(N:Nat)(p0:gM)(p1:Z Test)(p2:Int):aT Bool:=
 (mu N p0 p1 p2).bind λj=>(fu N p0 p1 p2).bind λo=>(oT N p0 p1 p2).bind λaa=>(gq N p0 p1 p2).bind λab=>((ov N j.1 o.1).bind λad=>bif ad&&(j.2==o.2)then((ox N aa.1 ab.1).bind λae=>bif ae&&(aa.2==ab.2)then((kI N).bind λaf=>some af)else some false)else some false).bind λag=>some ag
end
def rY{R:Type}(m:Nat)(e:Nat->aT R):aT R:=(List.range m).findSome? e
theorem km{R:Type}{m:Nat}{e:Nat->aT R}:rY m e=none↔∀k,k<m->e k=none:=by
 simp[rY]
theorem kn{R:Type}{m:Nat}{e:Nat->aT R}{r:R}:rY m e=some r↔∃k,k<m/\e k=some r/\∀j,j<k->e j=none:=by
 constructor
 ·intro h;obtain⟨l1,a,l2,hl,ha,hn⟩:=List.findSome?_eq_some_iff.1 h;have hlen:l1.length<m:=by have:=congrArg List.length hl;grind
  have hget:∀i,i<l1.length->l1[i]? =some i:=λi hi=>by
   have:=congrArg (·[i]?) hl
   grind
  have hat:a=l1.length:=by
   have:=congrArg (·[l1.length]?) hl
   grind
  grind
 ·rintro⟨k,hk,he,hn⟩;refine List.findSome?_eq_some_iff.2 ⟨List.range k,k,(List.range<|m - k - 1).map (· +(k+1)),?_,he,λx hx=>hn x<|kx.1 hx⟩;refine List.ext_getElem? λi=>?_
  by_cases h1:i<k
  ·grind
  ·rw[ku (by grind),List.length_range]
   by_cases h2:i=k
   all_goals grind
theorem OG{R R':Type}{m:Nat}{e:Nat->aT R}(f:R->R'):(rY m e).map f=rY m (λk=>(e k).map f):=by
 cases hx:rY m e with
 |none=>grind [km]
 |some r=>
  grind [kn]
section
variable {S R:Type}
def Nh(o:aT R)(s:S):Fl S R:=match o with|some r=> .rt r|none=> .nx s
def LA(o:aT R)(s:S):Fo S R:=match o with|some r=> .rt r|none=> .go s
theorem J4{body:Nat->S->aT (Fl S R)}(F:Nat->S)(e:Nat->aT R)(m:Nat):∀(n k:Nat),k+n=m->
  (∀j,k<=j->j<m->(∀i,k<=i->i<j->e i=none)->body j (F j)=some (Nh (e j)<|F<|j+1))->
  ∃o,H5 body n k (F k)=some o/\((∀j,k<=j->j<m->e j=none)/\o = .go (F m)\/∃j r,k<=j/\j<m/\e j=some r/\(∀i,k<=i->i<j->e i=none)/\o = .rt r)
 | 0,k,hk,_=>⟨_,rfl, .inl ⟨λj h1 h2=>by omega,by grind⟩⟩
 |n+1,k,hk,h=>by
  have hb:=h k (cJ _) (by omega) (λi h1 h2=>by omega);unfold H5;rw[hb]
  cases hx:e k with
  |some r=>exact⟨_,rfl, .inr ⟨k,r,cJ _,by omega,hx,λi h1 h2=>by omega,rfl⟩⟩
  |none=>
   obtain⟨o,ho,hc⟩:=J4 F e m n (k+1) (by omega) (λj h1 h2 h3=>h j (by omega) h2 λi h4 h5=>by
    grind)
   refine⟨o,ho,?_⟩
   rcases hc with⟨h1,h2⟩|⟨j,r,h1,h2,h3,h4,h5⟩
   ·refine .inl ⟨λj h3 h4=>?_,h2⟩
    by_cases h6:j=k
    ·subst h6;exact hx
    ·exact h1 j (by omega) h4
   ·refine .inr ⟨j,r,by omega,h2,h3,λi h6 h7=>?_,h5⟩
    by_cases h8:i=k
    ·subst h8;exact hx
    ·exact h4 i (by omega) h7
theorem Qi{body:Nat->S->aT (Fl S R)}{m:Nat}{s:S}(F:Nat->S)(e:Nat->aT R)(hm:m<=4611686018427387904)(hs:F 0=s)
  (h:∀k,k<m->(∀i,i<k->e i=none)->body k (F k)=some (Nh (e k)<|F<|k+1)):vA m body s=some (LA (rY m e)<|F m):=by
 subst hs;unfold vA;rw[aF hm];obtain⟨o,ho,hc⟩:=J4 F e m m 0 (by omega)<|λj _ h2 h3=>h j h2 λi hi=>h3 i (cP _) hi
 rw[ho]
 rcases hc with⟨h1,h2⟩|⟨j,r,_,h2,h3,h4,h5⟩
 ·rw[km.2 λk hk=>h1 k (cP _) hk,h2];rfl
 ·rw[kn.2 ⟨j,h2,h3,λi hi=>h4 i (cP _) hi⟩,h5];rfl
theorem rZ{body:Nat->Unit->aT (Fl Unit R)}{m:Nat}(e:Nat->aT R)(hm:m<=4611686018427387904)
  (h:∀k,k<m->(∀i,i<k->e i=none)->body k ()=some (Nh (e k) ())):vA m body ()=some (LA (rY m e) ()):=
 Qi (λ_=>()) e hm rfl h
theorem J5{body:Nat->S->aT S}(F:Nat->S):∀(n k:Nat),(∀j,k<=j->j<k+n->body j (F j)=some (F<|j+1))->Lb body n k (F k)=some (F<|k+n)
 | 0,_,_=>rfl
 |n+1,k,h=>by
  unfold Lb;rw[h k (cJ _) (by omega)];have:=J5 F n (k+1)<|λj h1 h2=>h j (by omega) (by omega)
  rw[show k+(n+1)=k+1+n by omega];exact this
theorem Aa{body:Nat->S->aT S}{m:Nat}{s:S}(F:Nat->S)(hm:m<=4611686018427387904)(hs:F 0=s)
  (h:∀k,k<m->body k (F k)=some (F<|k+1)):kL m body s=some (F m):=by
 subst hs
 simp_all[kL,aF,J5,jT]
theorem Ct{body:S->aT (Fl S R)}(Inv:S->Prop)(μ:S->Nat)(Go:S->Prop)(Rt:R->Prop)
  (h:∀s,Inv s->∃fl,body s=some fl/\match fl with| .nx s'=>Inv s'/\μ s'<μ s| .br s'=>Go s'| .rt r=>Rt r):
  ∀(N:Nat)(s:S),Inv s->μ s<N->∃o,iD body N s=some o/\match o with| .go s'=>Go s'| .rt r=>Rt r
 | 0,s,_,hn=>by omega
 |N+1,s,hi,hn=>by
  obtain⟨fl,hb,hf⟩:=h s hi;unfold iD;rw[hb]
  cases fl with
  |nx s'=>exact Ct Inv μ Go Rt h N s' hf.1 (by have:=hf.2;omega)
  |br s'=>exact⟨_,rfl,hf⟩
  |rt r=>exact⟨_,rfl,hf⟩
theorem J6{body:Nat->S->aT (Fl S R)}(Inv:Nat->S->Prop)(Go:S->Prop)(Rt:R->Prop)(m:Nat)
  (h:∀k s,k<m->Inv k s->∃fl,body k s=some fl/\match fl with| .nx s'=>Inv (k+1) s'| .br s'=>Go s'| .rt r=>Rt r) (hg:∀s,Inv m s->Go s):
  ∀(n k:Nat)(s:S),k+n=m->Inv k s->∃o,H5 body n k s=some o/\match o with| .go s'=>Go s'| .rt r=>Rt r
 | 0,k,s,hk,hi=>⟨_,rfl,hg s (by rw[<-hk];exact hi)⟩
 |n+1,k,s,hk,hi=>by
  obtain⟨fl,hb,hf⟩:=h k s (by omega) hi;unfold H5;rw[hb]
  cases fl with
  |nx s'=>exact J6 Inv Go Rt m h hg n (k+1) s' (by omega) hf
  |br s'=>exact⟨_,rfl,hf⟩
  |rt r=>exact⟨_,rfl,hf⟩
theorem Qj{body:Nat->S->aT (Fl S R)}{m:Nat}{s:S}(Inv:Nat->S->Prop)(Go:S->Prop)(Rt:R->Prop)(hm:m<=4611686018427387904)(h0:Inv 0 s)
  (h:∀k s,k<m->Inv k s->∃fl,body k s=some fl/\match fl with| .nx s'=>Inv (k+1) s'| .br s'=>Go s'| .rt r=>Rt r) (hg:∀s,Inv m s->Go s):
  ∃o,vA m body s=some o/\match o with| .go s'=>Go s'| .rt r=>Rt r:=by
 unfold vA;rw[aF hm];exact J6 Inv Go Rt m h hg m 0 s (by omega) h0
theorem J7{body:Nat->S->aT S}(Inv:Nat->S->Prop)(m:Nat)(h:∀k s,k<m->Inv k s->∃s',body k s=some s'/\Inv (k+1) s'):
  ∀(n k:Nat)(s:S),k+n=m->Inv k s->∃s',Lb body n k s=some s'/\Inv m s'
 | 0,k,s,hk,hi=>⟨_,rfl,by grind⟩
 |n+1,k,s,hk,hi=>by
  obtain⟨s',hb,hf⟩:=h k s (by omega) hi;unfold Lb;rw[hb];exact J7 Inv m h n (k+1) s' (by omega) hf
theorem ES{body:Nat->S->aT S}{m:Nat}{s:S}(Inv:Nat->S->Prop)(hm:m<=4611686018427387904)(h0:Inv 0 s)
  (h:∀k s,k<m->Inv k s->∃s',body k s=some s'/\Inv (k+1) s'):∃s',kL m body s=some s'/\Inv m s':=by
 simp_all[kL,aF,J7]
end
section
variable {α β:Type}
theorem aB(x:α)(f:α->aT β):(some x).bind f=f x:=rfl
theorem nu(l:Z α)(k:Nat)(h:k<l.length):idx l (k:Int)=some l[k]:=by
 unfold idx;simp
theorem cB{l:Z α}{k:Nat}{x:α}(h:l[k]? =some x):idx l (k:Int)=some x:=by
 grind [idx,cK]
theorem J8(s:eU)(k:Nat)(h:k<s.dV.length):Le s (k:Int)=some s.dV[k]:=by
 unfold Le;simp
theorem iL{k:Nat}(h:0<k)(hk:k<=4611686018427387904):wrap .i64 ((k:Int) - 1)=((k - 1:Nat):Int):=by
 grind [gC]
theorem tv(l:Z α)(k:Nat)(h:k<=l.length):vB l 0 (k:Int)=some (l.take k):=by
 unfold vB;grind
theorem r5(l:Z α)(k:Nat)(h:k<=l.length):vB l (k:Int) (l.length:Int)=some (l.drop k):=by
 grind [vB,cK,Option.some.injEq,nc,mJ]
theorem j4{b:Nat}{l ys:Z α}(h:(l.length+ys.length)*b<=140737488355328):app b l ys=some (l++ys):=by grind [app]
theorem oC{b:Nat}(z:α){n:Nat}(h:n*b<=140737488355328):mk b z (n:Int)=some (List.replicate n z):=by
 unfold mk
 grind
end
theorem eU.ext'{a b:eU}(h:a.dV=b.dV):a=b:=by cases a;simp_all
theorem Cu{a b:eU}:a.wF b=true↔a=b:=by
 grind [eU.wF,eU.ext']
theorem MA(a b:eU):a.wF b=decide (a=b):=by grind [Cu]
theorem D0:∀(a:Z UInt8),Op.bytesLess a a=false
 | []=>rfl
 |a::l=>by
  unfold Op.bytesLess;rw[D0 l];simp
theorem Fw:∀{a b c:Z UInt8},Op.bytesLess a b=true->Op.bytesLess b c=true->Op.bytesLess a c=true
 | [],[],_,h,_=>by simp[Op.bytesLess]at h
 | [],_::_,[],_,h=>by simp[Op.bytesLess]at h
 | [],_::_,_::_,_,_=>rfl
 |_::_,[],_,h,_=>by simp[Op.bytesLess]at h
 |_::_,_::_,[],_,h=>by simp[Op.bytesLess]at h
 |a::l,b::m,c::n,h1,h2=>by
  unfold Op.bytesLess at h1 h2 ⊢;simp only[jc,dB,dF,beq_iff_eq]at h1 h2 ⊢
  rcases h1 with h1|⟨rfl,h1⟩
  ·rcases h2 with h2|⟨rfl,h2⟩
   ·exact .inl<|UInt8.lt_trans h1 h2
   ·exact .inl h1
  ·rcases h2 with h2|⟨rfl,h2⟩
   ·exact .inl h2
   ·exact .inr ⟨rfl,Fw h1 h2⟩
theorem Fx:∀(a b:Z UInt8),Op.bytesLess a b=true\/a=b\/Op.bytesLess b a=true
 | [],[]=> .inr (.inl rfl)
 | [],_::_=> .inl rfl
 |_::_,[]=> .inr (.inr rfl)
 |a::l,b::m=>by
  unfold Op.bytesLess;simp only[jc,dB,dF,beq_iff_eq]
  by_cases h1:a<b
  ·exact .inl<|.inl h1
  ·by_cases h2:b<a
   ·exact .inr<|.inr<|.inl h2
   ·have e:a=b:=by
     simp only[UInt8.lt_iff_toNat_lt]at h1 h2;exact UInt8.toNat_inj.1 (by omega)
    subst e
    rcases Fx l m with h|h|h
    ·exact .inl<|.inr ⟨rfl,h⟩
    ·exact .inr<|.inl (by rw[h])
    ·exact .inr<|.inr<|.inr ⟨rfl,h⟩
theorem BB:∀(a b:Z UInt8),Lib.compareBytes a b<0↔Op.bytesLess a b=true
 | [],[]=>by simp[Lib.compareBytes,Op.bytesLess]
 | [],_::_=>by simp[Lib.compareBytes,Op.bytesLess]
 |_::_,[]=>by simp[Lib.compareBytes,Op.bytesLess]
 |a::l,b::m=>by
  unfold Lib.compareBytes Op.bytesLess;simp only[jc,dB,dF,beq_iff_eq];split
  ·simp_all
  ·rename_i h1;split
   ·rename_i h2;have h3:a≠b:=λe=>by subst e;exact h1 h2
    simp[h1,h3]
   ·rename_i h2;have e:a=b:=by
     simp only[UInt8.lt_iff_toNat_lt]at h1 h2;exact UInt8.toNat_inj.1 (by omega)
    subst e;rw[BB l m];simp[h1]
theorem Fy:∀(a b:Z UInt8),Lib.compareBytes a b=0↔a=b
 | [],[]=>by simp[Lib.compareBytes]
 | [],_::_=>by simp[Lib.compareBytes]
 |_::_,[]=>by simp[Lib.compareBytes]
 |a::l,b::m=>by
  unfold Lib.compareBytes;split
  ·rename_i h1;have h3:a≠b:=λe=>by subst e;exact absurd h1 (by simp)
   simp[h3]
  ·rename_i h1;split
   ·rename_i h2;have h3:a≠b:=λe=>by subst e;exact h1 h2
    simp[h3]
   ·rename_i h2;have e:a=b:=by
     simp only[UInt8.lt_iff_toNat_lt]at h1 h2;exact UInt8.toNat_inj.1 (by omega)
    subst e;rw[Fy l m];simp
def eU.lt(a b:eU):Prop:=a.wc b=true
theorem eU.lt_irrefl(a:eU):¬eU.lt a a:=by simp[eU.lt,eU.wc,D0,decide]
theorem eU.lt_trans{a b c:eU}(h1:eU.lt a b)(h2:eU.lt b c):eU.lt a c:=Fw h1 h2
theorem eU.J9(a b:eU):eU.lt a b\/a=b\/eU.lt b a:=by
 rcases Fx a.dV b.dV with h|h|h
 ·exact .inl h
 ·grind [eU.ext']
 ·exact .inr<|.inr h
theorem eU.Ry{a b:eU}(h:eU.lt a b):a≠b:=by grind [eU.lt_irrefl]
end Go.Gk
namespace Go.Gk
open Go IntKind
class Bk (α:Type)where
 bk:α->Nat
 pos:∀x,1<=bk x
def bk{α:Type}[Bk α](x:α):Nat:=Bk.bk x
theorem OH{α:Type}[Bk α](x:α):1<=bk x:=Bk.pos x
instance:Bk eU:=⟨λs=>s.dV.length+1,λ_=>by omega⟩
instance:Bk Int:=⟨λ_=>1,λ_=>by omega⟩
instance:Bk Bool:=⟨λ_=>1,λ_=>by omega⟩
instance {α:Type} [Bk α]:Bk (Z α):=⟨λl=>(l.map bk).sum+1,λ_=>by omega⟩
theorem OI{α:Type}[Bk α]:bk ([]:Z α)=1:=rfl
theorem Ir{α:Type}[Bk α](x:α)(l:Z α):bk (x::l)=bk x+bk l:=by
 rfl
theorem LB{α:Type}[Bk α]:∀{l:Z α}{x:α},x∈l->bk x+1<=bk l
 |y::l,x,h=>by
  rw[Ir]
  rcases fp.1 h with h|h
  ·subst h;have:=OH l;omega
  ·have:=LB h;omega
theorem BC{α:Type}[Bk α]:∀(l:Z α),l.length+1<=bk l
 | []=>by rw[OI];simp
 |x::l=>by rw[Ir,eN];have:=BC l;have:=OH x;omega
theorem Sr(s:eU):bk s=s.dV.length+1:=rfl
section
variable {α R:Type}
theorem Ni{l:Z α}{e:Nat->aT R}(f:α->aT R)(h:∀k x,l[k]? =some x->e k=f x):rY l.length e=l.findSome? f:=by
 cases hx:rY l.length e with
 |none=>
  grind [List.findSome?_eq_none_iff,eE,km,bR]
 |some r=>
  obtain⟨k,hk,he,hn⟩:=kn.1 hx;refine(List.findSome?_eq_some_iff.2 ⟨l.take k,l[k],l.drop<|k+1,?_,?_,λy hy=>?_⟩).symm
  ·simp
  ·grind
  grind [eE,bR,dE,List.getElem?_take_of_lt]
theorem Is(l:Z α)(p:α->Bool)(r:R):l.findSome? (λx=>if p x=true then some r else none)=if l.any p=true then some r else none:=by
 induction l with
 |nil=>simp
 |cons x l ih=>
  grind
theorem Cv{l:Z α}{body:Nat->Unit->aT (Fl Unit R)}(f:α->aT R)(hl:l.length<=4611686018427387904)
  (h:∀k x,l[k]? =some x->body k ()=some (Nh (f x) ())):vA l.length body ()=some (LA (l.findSome? f) ()):=by
 have h2:=rZ (body:=body) (m:=l.length) (λk=>(l[k]?).bind f) hl (λk hk _=>by
  grind)
 grind [Ni]
theorem Qk{l:Z α}{body:Nat->Unit->aT (Fl Unit R)}(p:α->Bool)(r:R)(hl:l.length<=4611686018427387904)
  (h:∀k x,l[k]? =some x->body k ()=some (if p x=true then .rt r else .nx ())):vA l.length body ()=some (if l.any p=true then .rt r else .go ()):=by
 rw[Cv (λx=>if p x=true then some r else none) hl (λk x hx=>by rw[h k x hx];cases p x <;> rfl),Is]
 cases l.any p <;> rfl
end
theorem Ql{β:Type}(b:Bool)(x y:β):(bif b then some x else some y)=some (bif b then x else y):=by grind
section
variable {α β:Type}
def Nj(l:Z α)(p:α->Bool):Int:=match l.findIdx? p with|some k=>(k:Int)|none=> -1
theorem Ka{l:Z α}{p:α->Bool}(h:l.any p=false):Nj l p = -1:=by
 unfold Nj
 grind
theorem Kb{l:Z α}{p:α->Bool}{k:Nat}{x:α}(hk:l[k]? =some x)(hp:p x=true)(hn:∀j y,j<k->l[j]? =some y->p y=false):Nj l p=(k:Int):=by
 unfold Nj;have hlt:=(bR.1 hk).1;have:l.findIdx? p=some k:=by
  rw[List.findIdx?_eq_some_iff_getElem]
  grind
 rw[this]
theorem Ab(l:Z α)(p:α->Bool):(Nj l p = -1/\∀x∈l,p x=false)\/∃k x,Nj l p=((k:Nat):Int)/\l[k]? =some x/\p x=true/\∀j y,j<k->l[j]? =some y->p y=false:=by
 unfold Nj
 cases h:l.findIdx? p with
 |none=>grind
 |some k=>
  grind [List.findIdx?_eq_some_iff_getElem,aM]
theorem Ss(l:Z α)(p:α->Bool):decide (Nj l p>=0)=l.any p:=by
 grind [Ab,List.any_eq_false,decide,lV,gh]
def xU(p0:Z α)(p1:α->aT Bool):aT Int:=
 (vA p0.length (λ(k1:Nat)(_:Unit)=>((idx p0 (k1:Int)).bind λx7=>(p1 x7).bind λx10=>bif x10 then some (.rt (k1:Int))else(some<|.nx ()):aT (Fl Unit Int))) ()).bind λo11=>o11.cs (λ(_:Unit)=>some<|-1)<|λr=>some r
theorem A2{l:Z α}{φ:α->aT Bool}(p:α->Bool)(hl:l.length<=4611686018427387904)(h:∀x∈l,φ x=some (p x)):xU l φ=some (Nj l p):=by
 unfold xU
 rw[rZ (λk=>(l[k]?).bind λx=>if p x=true then some ((k:Nat):Int)else none) hl (λk hk _=>by
  grind [nu,aB,cH,aM,Nh]),aB]
 grind [Ab,km,aM,cH,LA,Fo.cs,kn,bR]
def wk(p0:Z α)(p1:α->aT Bool):aT Bool:=
 (xU p0 p1).bind λx1=>some<|decide<|x1>=0
theorem wT{l:Z α}{φ:α->aT Bool}(p:α->Bool)(hl:l.length<=4611686018427387904)(h:∀x∈l,φ x=some (p x)):wk l φ=some (l.any p):=by
 simp_all[wk,A2,aB,Ss]
def LC [DecidableEq α](p0 p1:Z α):aT Bool:=
 bif(p0.length:Int) != (p1.length:Int)then some false else((vA p0.length (λ(k1:Nat)(_:Unit)=>((idx p0 (k1:Int)).bind λx13=>(idx p1 (k1:Int)).bind λx16=>bif(!(decide<|x13=x16))then some (.rt false)else(some<|.nx ()):aT (Fl Unit Bool))) ()).bind λo23=>o23.cs (λ(_:Unit)=>some true)<|λr=>some r)
theorem Ac [DecidableEq α]{l m:Z α}(hl:l.length<=4611686018427387904):LC l m=some (decide<|l=m):=by
 unfold LC
 by_cases h:l.length=m.length
 ·have e:((l.length:Int) != (m.length:Int))=false:=by rw[h];simp
  rw[e,aR]
  rw[rZ (λk=>if l[k]? =m[k]? then none else some false) hl (λk hk _=>by
   grind [nu,aB,aM,Nh]),aB]
  by_cases hx:l=m
  ·grind [km,LA,Fo.cs]
  ·have:∃r,rY l.length (λk=>if l[k]? =m[k]? then none else some false)=some r:=by
    cases hf:rY l.length (λk=>if l[k]? =m[k]? then none else some false)with
    |some r=>simp
    |none=>
     exfalso;refine hx<|List.ext_getElem? λi=>?_
     grind [km,List.getElem?_eq_none]
   grind [kn,LA,Fo.cs]
 ·have e:((l.length:Int) != (m.length:Int))=true:=by simp;omega
  rw[e,aP,cA<|λh'=>h (by rw[h'])]
def OJ(key:α->eU)(l:Z α):Prop:=∀(i j:Nat)(x y:α),i<j->l[i]? =some x->l[j]? =some y->eU.lt (key x) (key y)
theorem OJ.inj{key:α->eU}{l:Z α}(h:OJ key l){i j:Nat}{x y:α}(hx:l[i]? =some x)(hy:l[j]? =some y)(e:key x=key y):i=j:=by
 rcases Nat.lt_trichotomy i j with h1|h1|h1
 ·exact absurd e<|eU.Ry<|h i j x y h1 hx hy
 ·exact h1
 ·exact absurd e.symm<|eU.Ry<|h j i y x h1 hy hx
def OK(N:Nat)(p0:Z α)(p1:β)(p2:α->β->aT Int):aT (Int×Bool):=
 (iD (λ(s2:Int×Int)=>(bif s2.1<s2.2 then((idx p0<|wrap .i64<|Int.fdiv (wrap .u64<|wrap .i64<|s2.1+s2.2) 2).bind λx13=>(p2 x13 p1).bind λx16=>(bif x16<0 then some (wrap .i64<|wrap .i64 (Int.fdiv (wrap .u64<|wrap .i64<|s2.1+s2.2) 2)+1,s2.2)else some (s2.1,wrap .i64<|Int.fdiv (wrap .u64<|wrap .i64<|s2.1+s2.2) 2)).bind λs17=>some<|.nx (s17.1,s17.2))else(some<|.br (s2.1,s2.2)):aT (Fl (Int×Int) Empty))) N (0,(p0.length:Int))).bind λo29=>o29.cs (λ(s2:Int×Int)=>(bif decide (s2.1<(p0.length:Int))then((idx p0 s2.1).bind λx25=>(p2 x25 p1).bind λx28=>some<|x28==0)else some false).bind λs23=>some (s2.1,s23))<|λr=>r.elim
theorem Nk{a b:Nat}(h:a<b)(hb:b<=4611686018427387904):wrap .i64 (Int.fdiv (wrap .u64<|wrap .i64<|(a:Int)+(b:Int)) 2)=(((a+b) / 2:Nat):Int):=by
 rw[gC (x:=(a:Int)+(b:Int)) (by omega) (by omega)];have e:wrap .u64 ((a:Int)+(b:Int))=((a+b:Nat):Int):=by
  show((a:Int)+b) % 18446744073709551616=_;omega
 grind [Int.fdiv_eq_ediv_of_nonneg,gC]
end
end Go.Gk
namespace Go.Gk
open Go IntKind Go.ChangeShapes Go.WideShapes Go.RowKit
structure UB (ub:(H:Type)->DataW H->Nat) (ua:(H:Type)->List (DataW H)->Nat):Prop where
 str:∀(H:Type)(b:List UInt8),ub H (.lit<|.string b)=b.length+1
 pos:∀(H:Type)(d:DataW H),1<=ub H d
 sl:∀(H:Type)(e s:List (DataW H)),ub H (.slice e s)=ua H e+ua H s+1
 ag:∀(H:Type)(l:List (DataW H)),ub H (.agg l)=ua H l+1
 nil:∀(H:Type),ua H []=0
 cons:∀(H:Type)(x:DataW H)(l:List (DataW H)),ua H (x::l)=ub H x+ua H l
def Hw(w:aY):eZ:=λb=>w.heap[b]?
structure lP (ub:(H:Type)->DataW H->Nat) (P:Program) (T:TypeId) (α:Type) [GT α] [Bk α]:Prop where
 trod:∀{H:Type}{enc:TypeId×Value->H}{w:World}{base:Nat}{spare:Nat->Bool}{held:Bool}{fuel:Nat}{cs:List Value}{d:DataW H×List MemPlace},
  DataW.trod enc P w base spare held fuel T cs=some d->∃x:α,GT.ok (Hw w) cs x/\bk x<=ub H d.1
 UA:∀{w:World}{r:Reach}{base:Nat}{v:Value},Value.okWide P w r base T v->v=yY α v.cells.toList
section
variable {ub:(H:Type)->DataW H->Nat}{ua:(H:Type)->List (DataW H)->Nat}{P:Program}{T e:TypeId}
theorem Nl(u:UB ub ua)(ht:P.underlying T=some (.int .i64)):lP ub P T Int where
 trod:=λh=>by
  obtain⟨n,rfl,rfl,_⟩:=DataW.trod_int ht h;exact⟨n,rfl,u.pos _ _⟩
 UA:=λh=>by obtain⟨n,rfl⟩:=okWide_int ht h;rfl
theorem LD(u:UB ub ua)(ht:P.underlying T=some .bool):lP ub P T Bool where
 trod:=λh=>by
  obtain⟨n,rfl,rfl⟩:=DataW.trod_bool ht h;exact⟨n,rfl,u.pos _ _⟩
 UA:=λh=>by obtain⟨n,rfl⟩:=okWide_bool ht h;rfl
theorem Nm(u:UB ub ua)(ht:P.underlying T=some .string):lP ub P T eU where
 trod:=λh=>by
  obtain⟨s,rfl,rfl,_⟩:=DataW.trod_string ht h;refine⟨⟨s.data.toList⟩,?_,?_⟩
  ·show [Value.string s]= [Gk.str ⟨s.data.toList⟩]
   cases s;rfl
  ·rw[u.str];exact cJ _
 UA:=λh=>by obtain⟨n,rfl⟩:=okWide_string ht h;rfl
theorem D1{α:Type}{R:Nat->α->Prop}:∀(n:Nat),(∀i,i<n->∃x,R i x)->∃l:Z α,l.length=n/\∀i x,l[i]? =some x->R i x
 | 0,_=>⟨[],rfl,λi x h=>by simp at h⟩
 |n+1,h=>by
  obtain⟨l,h1,h2⟩:=D1 n<|λi hi=>h i (by omega)
  obtain⟨x,hx⟩:=h n (by omega);refine⟨l++[x],by simp[h1],λi y hy=>?_⟩
  by_cases hi:i<n
  ·rw[kM (by omega)]at hy;exact h2 i y hy
  ·have:=(bR.1 hy).1;rw[eC]at this;have:i=n:=by simp at this;omega
   subst this;rw[ku (by omega),h1]at hy;simp at hy;subst hy;exact hx
theorem HA{H α:Type}[Bk α](u:UB ub ua):∀{l:List α}{es:List (DataW H×List MemPlace)},l.length=es.length->
  (∀(i:Nat)(x:α)(y:DataW H×List MemPlace),l[i]? =some x->es[i]? =some y->bk x<=ub H y.1)->bk l<=ua H (es.map (·.1))+1
 | [],[],_,_=>by rw[OI];omega
 |x::l,y::es,hl,h=>by
  have h1:=h 0 x y rfl rfl;have h2:=HA (H:=H) u (l:=l) (es:=es) (by simpa using hl)<|λi x y hx hy=>h (i+1) x y (by simpa using hx) (by simpa using hy)
  rw[Ir,eW,u.cons];omega
theorem Kc{w:aY}{base:Nat}{a:Addr}{n:Nat}{cs:Z aX}(h:w.cells? base a n=some cs):At (Hw w) a cs:=by
 intro j v hv;obtain⟨_,hlen,hc⟩:=World.cells?_some h;have hj:=(bR.1 hv).1;have h2:=hc j (by omega);rw[hv]at h2;unfold BZ Hw;unfold World.cell? at h2;exact h2
theorem uZ{α:Type}[GT α][Bk α](u:UB ub ua)(he:lP ub P e α)(ht:P.underlying T=some (.slice e):=by kernel_rfl)(hc:P.cellsOf e=GT.sz α:=by kernel_rfl):lP ub P T (List α)where
 trod:=λ{H enc w base spare held fuel cs d}h=>by
  rcases DataW.trod_slice ht h with⟨rfl,rfl⟩|⟨a,len,cap,elems,rest,n,_,rfl,rfl,_,hlc,hcm,hlen,hel,_⟩
  ·exact⟨[],⟨_,rfl,none,0,0,rfl,rfl,cJ _,by simp[maxLen],λi x hx=>by simp at hx⟩,u.pos _ _⟩
  ·have each:∀i,i<len->∃x:α,(∃c y,GT.ok (Hw w) c x/\At (Hw w) (a.add<|i*GT.sz α) c/\elems[i]? =some y/\bk x<=ub H y.1):=by
    intro i hi;have h1:=hel i hi;rw[aM (by omega:i<elems.length),Option.bind_eq_some_iff]at h1;obtain⟨c,h2,h3⟩:=h1;obtain⟨x,h4,h5⟩:=he.trod h3;refine⟨x,c,_,h4,?_,aM (by omega),h5⟩;rw[hc]at h2;exact Kc h2
   obtain⟨l,hl,hr⟩:=D1 len each;refine⟨l,⟨_,rfl,some a,len,cap,rfl,hl.symm,hlc,hcm,λi x hx=>?_⟩,?_⟩
   ·obtain⟨c,y,h1,h2,_⟩:=hr i x hx;exact⟨a,c,rfl,h1,h2⟩
   ·have:=HA (H:=H) u (l:=l) (es:=elems) (by omega) (λi x y hx hy=>by
     obtain⟨c,y',_,_,h3,h4⟩:=hr i x hx
     rw[hy]at h3;injection h3 with h3;subst h3;exact h4)
    rw[u.sl];omega
 UA:=λh=>by obtain⟨a,n,c,rfl⟩:=okWide_slice ht h;rfl
def MB(ub:(H:Type)->DataW H->Nat)(ua:(H:Type)->List (DataW H)->Nat)(P:Program)(off:Nat)(fs:List Field)(β:Type)[GT β](m:β->Nat):Prop:=
 ∀{H:Type}{enc:TypeId×Value->H}{w:World}{base:Nat}{spare:Nat->Bool}{held:Bool}{n:Nat}{cs:List Value}{ys:List (DataW H×List MemPlace)},
  (∀(i:Nat)(f:Field),fs[i]? =some f->DataW.trod enc P w base spare held n f.type ((cs.drop f.offset).take<|P.cellsOf f.type)=ys[i]?)->ys.length=fs.length->
  cs.length=off+GT.sz β->∃x:β,GT.ok (Hw w) (cs.drop off) x/\m x<=ua H (ys.map (·.1))
theorem sN{β:Type}[GT β][Bk β]{off:Nat}{f:Field}(u:UB ub ua)(h:lP ub P f.type β)(ho:f.offset=off:=by exact rfl)(hc:P.cellsOf f.type=GT.sz β:=by kernel_rfl):MB ub ua P off [f] β bk:=by
 intro H enc w base spare held n cs ys hf hl hcs
 match ys,hl with
 | [y],_=>
  have h1:=hf 0 f rfl;rw[ho,hc,nc (by rw[mJ];omega)]at h1;obtain⟨x,h2,h3⟩:=h.trod (d:=y) h1;exact⟨x,h2,by rw[eW,u.cons];omega⟩
theorem iz{α β:Type}[GT α][GT β][Bk α]{off off':Nat}{f:Field}{fs:Z Field}{m:β->Nat}(u:UB ub ua)(h:lP ub P f.type α)(hr:MB ub ua P off' fs β m)(ho:f.offset=off:=by exact rfl)(hc:P.cellsOf f.type=GT.sz α:=by kernel_rfl)(hoff:off'=off+GT.sz α:=by exact rfl):MB ub ua P off (f::fs) (α×β) (λx=>bk x.1+m x.2):=by
 intro H enc w base spare held n cs ys hf hl hcs;have hsz:GT.sz (α×β)=GT.sz α+GT.sz β:=rfl
 match ys,hl with
 |y::ys,hl=>
  have h1:=hf 0 f rfl;rw[ho,hc]at h1;obtain⟨x,h2,h3⟩:=h.trod (d:=y) h1;obtain⟨x',h4,h5⟩:=hr (n:=n) (cs:=cs) (ys:=ys) (λi g hg=>hf (i+1) g hg) (by simpa using hl) (by omega);refine⟨(x,x'),⟨_,_,?_,h2,h4⟩,?_⟩
  ·rw[hoff,<-List.drop_drop,List.take_append_drop]
  ·rw[eW,u.cons];show bk x+m x'<=_;omega
theorem nv{γ β:Type}[GT β][Bk γ]{fs:Array Field}{m:β->Nat}(u:UB ub ua)(f:γ->β)(g:β->γ)(hfg:∀b,f (g b)=b)(ht:P.underlying T=some (.struct fs))(h:MB ub ua P 0 fs.toList β m)(hm:∀b,bk (g b)<=m b+1)(hc:P.cellsOf T=GT.sz β:=by kernel_rfl): @lP ub P T γ (GT.via f) _:=
 @lP.mk ub P T γ (GT.via f) _
  (λ{H enc w base spare held fuel cs d}hd=>by
   obtain⟨xs,n,_,rfl,hl,hlen,hf⟩:=DataW.trod_struct ht hd;obtain⟨b,h1,h2⟩:=h (n:=n) (cs:=cs) (ys:=xs) (λi g hg=>hf i g (by rw[<-Array.getElem?_toList];exact hg)) (by rw[hlen];simp) (by omega);refine⟨g b,?_,?_⟩
   ·show GT.ok (Hw w) cs (f<|g b);rw[hfg];exact h1
   ·rw[u.ag];have:=hm b;omega)
  (λhv=>by
   obtain⟨cs,rfl,_⟩:=okWide_struct ht hv
   cases cs;rfl)
theorem lP.arg{H:Type}{enc:TypeId×Value->H}{w:World}{base:Nat}{spare:Nat->Bool}{held:Bool}{r:Reach}{b0:Nat}{v:Value}{d:DataW H}{ps:List MemPlace}{α:Type}[GT α][Bk α](o:lP ub P T α)
  (hv:Value.okWide P w r b0 T v) (hd:DataW.Trod enc P w base spare held T v d ps):∃x:α,Bi (Hw w) v x/\bk x<=ub H d:=by
 obtain⟨fuel,hf⟩:=hd;obtain⟨x,h1,h2⟩:=o.trod hf;exact⟨x,⟨_,o.UA hv,h1⟩,h2⟩
theorem lP.V2{H:Type}{enc:TypeId×Value->H}{w:World}{base:Nat}{spare:Nat->Bool}{held:Bool}{r:Reach}{b0:Nat}{v:Value}{d:DataW H}{ps:List MemPlace}{α:Type}[Sc α][Bk α](o:lP ub P T α)
  (hv:Value.okWide P w r b0 T v) (hd:DataW.Trod enc P w base spare held T v d ps):∃x:α,v=Sc.toV x/\bk x<=ub H d:=by
 obtain⟨x,h1,h2⟩:=o.arg hv hd;exact⟨x,H2.1 h1,h2⟩
end
theorem Calls.fin{P:bG}{f:FuncId}{args:aZ aX}{w:aY}{R Q:aX->aY->Prop}(h:Calls P f args w (fI R))(k:∀v w',R v w'->Q v w'):
  Calls P f args w (λe W'=>∃v,e = .returned v/\Q v W'):=Calls.mono h λ_ w'⟨v,e,hr⟩=>⟨v,e,k v w' hr⟩
def iU(W:aY):HP:=⟨λM h=>hle (Hw W) M/\h=vC,λk⟨a,b⟩=>⟨M1 a k,b⟩⟩
theorem Holds.begin(W:aY):Holds W W [iU W]:=by
 refine⟨Hw W,λ_=>vC,⟨rfl,rfl,rfl,cJ _,λb o h=>h,λi Pr hq=>?_,λ_ _ _ _ h=>(by cases h),λ_ _ _ _ h=>(by cases h),λ_ _ _ _ _ _ _ h=>(by cases h)⟩⟩
 match i,hq with
 | 0,hq=>simp at hq;subst hq;exact⟨NX _,rfl⟩
theorem Holds.Rz{α:Type}[GT α]{W:aY}{V:Z HP}{v:aX}{x:α}(h:Holds W W (V++[iU W]))(hv:Gk.Bi (Hw W) v x):Holds W W (rd v x::(V++[iU W])):=
 h.GN λM hs g=>by
  have h1:=(g.sat V.length (iU W) (by simp)).1;exact⟨hv.mono h1,rfl⟩
theorem Holds.kept{E W w:aY}{V:Z HP}(h:Holds E w (V++[iU W]))(he:E=W):Below W.heap.size W w:=by
 subst he;obtain⟨M,hs,g⟩:=h;have h1:=(g.sat V.length (iU E) (by simp)).1;have h2:∀k o,E.heap[k]? =some o->w.heap[k]? =some o:=λk o ho=>g.im k o<|h1 k o ho
 refine⟨g.os,g.tape,g.out,?_,λk hk=>?_⟩
 ·by_cases h0:E.heap.size=0
  ·omega
  ·have h3:=h2 (E.heap.size - 1) _<|kr (by omega)
   have:=(Array.getElem?_eq_some_iff.1 h3).1;omega
 ·rw[kr hk];exact h2 k _<|kr hk
section
variable {H:Type}{enc:bK×aX->H}{P:bG}
theorem Nn{f:Func}{s:ChangeSpec}{apart fresh handsOn again:Bool}{W W':World}{args:Array Value}{v:Value}{ds gs:List (DataW H)}{before pa pv:List MemPlace}
  (hW:DataW.Whole enc P f.params.toList s.vars apart W args.toList ds gs before)
  (hres:∀(b:Nat)(sp:Nat->Bool)(hd:Bool),DataW.TrodAll enc P W' b sp hd f.resultTypes.toList (v.resultList f.resultTypes.size) (s.fn H<|ds++gs).results [])
  (hargs:∀sp:Nat->Bool,(∀p∈before,sp p.block=true)->DataW.TrodAll enc P W' 0 sp true f.params.toList args.toList (s.fn H<|ds++gs).args pa)
  (hvars:∀sp:Nat->Bool,(∀p∈before,sp p.block=true)->DataW.TrodVars enc P W' sp s.vars (s.fn H<|ds++gs).vars pv)
  (hps:before=pa++pv) (hb:Below W.heap.size W W')
  (hok:∀(j:Nat)(t:TypeId)(r:Value),f.resultTypes[j]? =some t->(v.resultList f.resultTypes.size)[j]? =some r->Value.okWide P W' .any 0 t r):
  s.post enc P f apart fresh handsOn again W args v W':=by
 have hlt:∀p∈before,p.block<W.heap.size:=λp hp=>hW.lt p hp;have hold:∀p∈before,(λb=>decide<|b<W.heap.size) p.block=true:=λp hp=>by simpa using hlt p hp
 refine⟨ds,gs,before,[],pa,pv,hW,hres _ _ _,hargs _ hold,hvars _ hold,World.keptBut_mono (λp hp=>⟨hp,?_⟩)<|hb.frame (· ∈before),λ_=>?_⟩
 ·rw[hps,dJ]at hp;exact Or.inr hp
 ·obtain⟨_,_,_,_,_,hz,hn⟩:=hW;refine⟨hok,_,_,([]++pa)++pv,⟨[]++pa,pv,trodAll_append (hargs _<|λ_ _=>rfl)<|hres _ _ _,hvars _<|λ_ _=>rfl,rfl,?_,?_⟩,?_⟩
  ·intro b off hp;have hin:MemPlace.cell b off∈before:=by rw[hps];simpa using hp
   rw[hb.frozen<|hlt _ hin];exact hz b off hin
  ·intro ha;have:=hn ha;rw[hps]at this;simpa using this
  ·intro p hp _;rw[hps];simpa using hp
theorem A3{W W':World}(hl:laidOutB P=true)(hb:Below W.heap.size W W'){sp:Nat->Bool}:∀{ts:List TypeId}{vs:List Value}{ds:List (DataW H)}{ps:List MemPlace},
  (∀t∈ts,P.readableRec t=true/\t<P.types.size)->DataW.TrodAll enc P W 0 (λ_=>true) true ts vs ds ps->(∀p∈ps,p.block<W.heap.size)->(∀p∈ps,sp p.block=true)->DataW.TrodAll enc P W' 0 sp true ts vs ds ps
 | [],_,_,_,_,h,_,_=>by
  obtain⟨rfl,rfl,rfl⟩:=trodAll_nil h;rfl
 |t::ts,_,_,_,ht,h,hlt,hsp=>by
  obtain⟨v,vs,d,ds,p,q,rfl,rfl,rfl,h1,h2⟩:=trodAll_cons h;refine⟨p,q,?_,A3 hl hb (λt h=>ht t (by simp[h])) h2 (λx hx=>hlt x (by simp[hx]))<|λx hx=>hsp x (by simp[hx]),rfl⟩;exact WideElems.Trod_stays hl (ht t (by simp)).1 (ht t (by simp)).2 h1 (λx hx=>hb.same<|hlt x (by simp[hx]))<|λx hx=>hsp x (by simp[hx])
end
end Go.Gk
namespace Go.Gk
open Go IntKind
instance:Bk aG:=⟨λx=>bk x.X0+bk x.Y0+bk x.X1+bk x.Y1+1,λ_=>by omega⟩
theorem Qm(x:aG):bk x=bk x.X0+bk x.Y0+bk x.X1+bk x.Y1+1:=rfl
instance:Bk dW:=⟨λx=>bk x.X+bk x.Y+1,λ_=>by omega⟩
theorem OL(x:dW):bk x=bk x.X+bk x.Y+1:=rfl
instance:Bk bU:=⟨λx=>bk x.At+bk x.eJ+bk x.cO+bk x.To+bk x.fJ+1,λ_=>by omega⟩
theorem Qn(x:bU):bk x=bk x.At+bk x.eJ+bk x.cO+bk x.To+bk x.fJ+1:=rfl
instance:Bk cX:=⟨λx=>bk x.Part+bk x.eG+bk x.cM+bk x.At+1,λ_=>by omega⟩
theorem MC(x:cX):bk x=bk x.Part+bk x.eG+bk x.cM+bk x.At+1:=rfl
instance:Bk gM:=⟨λx=>bk x.aL+bk x.cQ+bk x.aN+bk x.bO+1,λ_=>by omega⟩
theorem OM(x:gM):bk x=bk x.aL+bk x.cQ+bk x.aN+bk x.bO+1:=rfl
instance:Bk eG:=⟨λx=>bk x.Part+bk x.eG+1,λ_=>by omega⟩
theorem St(x:eG):bk x=bk x.Part+bk x.eG+1:=rfl
instance:Bk Test:=⟨λx=>bk x.A+bk x.B+bk x.Joined+1,λ_=>by omega⟩
theorem Qo(x:Test):bk x=bk x.A+bk x.B+bk x.Joined+1:=rfl
instance:Bk aA:=⟨λx=>bk x.Y0+bk x.Y1+bk x.Xs+1,λ_=>by omega⟩
instance:Bk aD:=⟨λx=>bk x.cM+bk x.Set+bk x.dY+1,λ_=>by omega⟩
instance:Bk bZ:=⟨λx=>bk x.fN+bk x.aN+bk x.fB+1,λ_=>by omega⟩
instance:Bk dZ:=⟨λx=>bk x.bU+bk x.Number+1,λ_=>by omega⟩
instance:Bk bL:=⟨λx=>bk x.Open+bk x.dZ+bk x.A+bk x.B+1,λ_=>by omega⟩
instance:Bk we:=⟨λx=>bk x.A+bk x.B+bk x.iX+bk x.cO+bk x.To+1,λ_=>by omega⟩
instance:Bk cL:=⟨λx=>bk x.Ln+bk x.AW+1,λ_=>by omega⟩
instance:Bk aI:=⟨λx=>bk x.from_+bk x.to+1,λ_=>by omega⟩
instance:Bk aQ:=⟨λx=>bk x.from_+bk x.to+bk x.kq+1,λ_=>by omega⟩
end Go.Gk
namespace Go.Gk
open Go IntKind Go.Sort
section
variable {α:Type}
theorem D2{β:Type}(a:aZ β){n:Nat}(h:a.size=n):a.extract 0 n=a:=by grind
theorem Su{φ:α->α->aT Int}{l:Z α}(cf:α->α->Int)(hφ:∀x∈l,∀y∈l,φ x y=some (cf x y))(h1:∀x∈l,¬cf x x<0)
  (h2:∀x∈l,∀y∈l,∀z∈l,cf x y<0->cf y z<0->cf x z<0) (h3:∀x∈l,∀y∈l,∀z∈l,¬cf x y<0->¬cf y z<0->¬cf x z<0):SWO (QT<|K4 φ l):=by
 have hm:∀i:Fin l.length,l[i]∈l:=λi=>cH i.isLt;have e:∀i j:Fin l.length,K4 φ l i j=cf l[i] l[j]:=λi j=>by grind [K4]
 refine⟨λx=>?_,λx y z=>?_,λx y z=>?_⟩
 all_goals grind [QT,decide_eq_false_iff_not]
theorem FF{φ:α->α->aT Int}{l:Z α}(cf:α->α->Int)(hφ:∀x∈l,∀y∈l,φ x y=some (cf x y))(h1:∀x∈l,¬cf x x<0)
  (h2:∀x∈l,∀y∈l,∀z∈l,cf x y<0->cf y z<0->cf x z<0) (h3:∀x∈l,∀y∈l,∀z∈l,¬cf x y<0->¬cf y z<0->¬cf x z<0) (hl:l.length<4611686018427387904):
  ∃m,B9 φ l=some m/\m.Perm l/\m.Pairwise (λx y=>¬cf y x<0):=by
 have hO:=Su cf hφ h1 h2 h3;have hm:∀i:Fin l.length,l[i]∈l:=λi=>cH i.isLt;have hc:(∀i j:Fin l.length,∃c,φ l[i] l[j]=some c):=λi j=>⟨_,hφ _ (hm i) _<|hm j⟩;refine⟨Mn φ l,by simp_all[B9,aF],?_⟩;unfold Mn
 by_cases hn:0<l.length
 ·rw[dif_pos hn]
  letI inh:Inhabited (Fin l.length):=⟨⟨0,hn⟩⟩
  have hds:(Array.ofFn λi:Fin l.length=>i).size=l.length:=by simp
  obtain⟨hp,hs⟩:=pdq_sorts (QT<|K4 φ l) hO (Array.ofFn λi:Fin l.length=>i) 0 l.length (Lib.bitLen l.length) true true (cP _) (by omega)<|Or.inl rfl
  show(List.map (λi=>l[i]) (pdq (QT<|K4 φ l) (Array.ofFn λi:Fin l.length=>i) 0 l.length (Lib.bitLen l.length) true true).toList).Perm l/\_;generalize pdq (QT<|K4 φ l) (Array.ofFn λi:Fin l.length=>i) 0 l.length (Lib.bitLen l.length) true true=d' at hp hs;obtain⟨hz,_,hpm⟩:=hp;have hz':d'.size=l.length:=hz.trans hds;rw[D2 d' hz',D2 _ hds]at hpm;have hof:(Array.ofFn λi:Fin l.length=>i).toList.map (λi=>l[i])=l:=by
   rw[Array.toList_ofFn,List.map_ofFn];exact List.ofFn_getElem
  refine⟨(hpm.map<|λi=>l[i]).trans<|List.Perm.of_eq hof,?_⟩;rw[List.pairwise_map,ou];intro i j hi hj hij;rw[Array.length_toList]at hi hj;have:=hs i j (cP _) hij (by omega)
  grind [K4,QT,decide_eq_false_iff_not]
 ·rw[dif_neg hn];have:l= []:=List.length_eq_zero_iff.1 (by omega);subst this;exact⟨List.Perm.refl _,ky⟩
theorem HB{φ:α->α->aT Int}{x:α}(h:φ x x=some 0):B9 φ [x]=some [x]:=by
 obtain⟨m,h1,h2,_⟩:=FF (φ:=φ) (l:=[x]) (λ_ _=>0) (λa ha b hb=>by simp at ha hb;rw[ha,hb];exact h) (λ_ _=>by decide) (λ_ _ _ _ _ _ h=>by simp at h) (λ_ _ _ _ _ _ _ _=>by decide) (by simp);rw[h1,List.perm_singleton.1 h2]
theorem G3{l:Z Int}(h:l.Pairwise (λx y=>x<=y))(hl:l.length<4611686018427387904):y6 l=some l:=by
 grind [y6,List.mergeSort_of_pairwise]
end
end Go.Gk
namespace Go.Gk
open Go IntKind
def na(l:Z Int)(x:Int):Nat:=l.countP<|λa=>decide<|a<=x
def sq(l:Z Int)(x:Int):Bool:=na l x % 2==1
def kC(l:Z Int):Prop:=l.Pairwise (· < ·)
theorem Iw(x:Int):na [] x=0:=rfl
theorem sd(a:Int)(l:Z Int)(x:Int):na (a::l) x=(if a<=x then 1 else 0)+na l x:=by
 grind [na]
theorem FG(l m:Z Int)(x:Int):na (l++m) x=na l x+na m x:=List.countP_append
theorem ME{l:Z Int}{x:Int}(h:∀a∈l,a<=x):na l x=l.length:=by
 grind [na,List.countP_eq_length]
theorem FH{l:Z Int}{x:Int}(h:∀a∈l,x<a):na l x=0:=by
 grind [na,List.countP_eq_zero]
theorem EU{l:Z Int}{x:Int}:sq l x=true↔na l x % 2=1:=by simp[sq]
theorem CH{l:Z Int}{x:Int}(h:∀a∈l,x<a):sq l x=false:=by grind [sq,FH]
theorem kC.head{a:Int}{l:Z Int}(h:kC (a::l)):∀b∈l,a<b:=(qD.1 h).1
theorem kC.tail{a:Int}{l:Z Int}(h:kC (a::l)):kC l:=(qD.1 h).2
theorem CI{a:Int}{l:Z Int}(h:kC (a::l)):sq (a::l) a=true:=by
 rw[EU,sd,aF<|Int.le_refl _,FH h.head]
theorem FI:∀{l m:Z Int},kC l->kC m->(∀x,sq l x=sq m x)->l=m
 | [],[],_,_,_=>rfl
 | [],b::m,_,hm,h=>by have:=h b;rw[CI hm]at this;cases this
 |a::l,[],hl,_,h=>by have:=h a;rw[CI hl]at this;cases this
 |a::l,b::m,hl,hm,h=>by
  have hab:a=b:=by
   rcases Int.lt_trichotomy a b with h1|h1|h1
   ·have h2:=h a
    rw[CI hl,CH (l:=b::m) (λc hc=>by
     rcases fp.1 hc with rfl|hc
     ·exact h1
     ·have:=hm.head c hc;omega)]at h2
    cases h2
   ·exact h1
   ·have h2:=h b
    rw[CI hm,CH (l:=a::l) (λc hc=>by
     rcases fp.1 hc with rfl|hc
     ·exact h1
     ·have:=hl.head c hc;omega)]at h2
    cases h2
  subst hab;rw[FI hl.tail hm.tail<|λx=>?_]
  by_cases hx:a<=x
  ·have h2:=h x;unfold sq at h2 ⊢;rw[sd,sd,aF hx]at h2;rw[jd]at h2 ⊢;simp only[beq_iff_eq]at h2 ⊢;omega
  ·rw[CH (λc hc=>by have:=hl.head c hc;omega),CH (λc hc=>by have:=hm.head c hc;omega)]
theorem FJ{l:Z Int}{a b:Int}(hl:∀c∈l,c<a)(he:l.length % 2=0)(hab:a<b)(x:Int):sq (l++[a,b]) x=(sq l x||(decide (a<=x)&&decide (x<b))):=by
 rw[jd,jc,dB,dF,dF,EU,EU,FG,sd,sd,Iw]
 grind [na,ME]
theorem OQ{l:Z Int}{s e a b:Int}(hl:∀c∈l,c<s)(he:l.length % 2=0)(hs:s<e)(h1:s<=a)(h2:a<=e)(hab:a<b)(x:Int):sq (l++[s,max e b]) x=(sq (l++[s,e]) x||(decide (a<=x)&&decide (x<b))):=by
 grind [FJ]
theorem kC.snoc{l:Z Int}{a b:Int}(h:kC l)(hl:∀c∈l,c<a)(hab:a<b):kC (l++[a,b]):=by
 grind [kC]
structure Bd where
 y0:Int
 y1:Int
 xs:Z Int
def rowAt:Z Bd->Int->Z Int
 | [],_=>[]
 |b::s,y=>if b.y0<=y/\y<b.y1 then b.xs else rowAt s y
theorem o9(b:Bd)(s:Z Bd)(y:Int):rowAt (b::s) y=if b.y0<=y/\y<b.y1 then b.xs else rowAt s y:=rfl
structure fY (s:Z Bd):Prop where
 each:∀b∈s,b.y0<b.y1/\b.xs≠[]/\kC b.xs/\b.xs.length % 2=0
 ord:s.Pairwise (λb c=>b.y1<=c.y0/\(b.y1=c.y0->b.xs≠c.xs))
theorem fY.nil:fY []:=⟨λb h=>by simp at h,ky⟩
theorem fY.tail{b:Bd}{s:Z Bd}(h:fY (b::s)):fY s:=⟨λc hc=>h.each c<|ja _ hc,(qD.1 h.ord).2⟩
theorem nA{s:Z Bd}{y:Int}(h:∀b∈s,y<b.y0\/b.y1<=y):rowAt s y= []:=by
 induction s with
 |nil=>rfl
 |cons b s ih=>
  grind [rowAt,ja]
theorem uz(s t:Z Bd)(y:Int):rowAt (s++t) y=if(∃b∈s,b.y0<=y/\y<b.y1)then rowAt s y else rowAt t y:=by
 induction s with
 |nil=>simp
 |cons b s ih=>
  rw[List.cons_append,o9,o9]
  by_cases h:b.y0<=y/\y<b.y1
  ·simp_all
  ·rw[aH h,ih]
   by_cases h2:∃c∈s,c.y0<=y/\y<c.y1
   ·simp_all[aF,ja,aH]
   grind
theorem fY.pd{b:Bd}{s:Z Bd}{y:Int}(h0:b.y0<=y)(h1:y<b.y1):rowAt (b::s) y=b.xs:=by grind [rowAt]
theorem fY.FK{b:Bd}{s:Z Bd}(h:fY (b::s)):∀c∈s,b.y1<=c.y0:=λc hc=>((qD.1 h.ord).1 c hc).1
theorem fY.Ad{b:Bd}{s:Z Bd}(h:fY (b::s)){y:Int}(hy:y<b.y0):rowAt (b::s) y= []:=nA λc hc=>by
 rcases fp.1 hc with rfl|hc
 ·exact .inl hy
 ·have:=h.FK c hc;have:=(h.each b (by simp)).1;exact .inl (by omega)
theorem fY.MF{b:Bd}{s:Z Bd}(h:fY (b::s)):rowAt (b::s) b.y1≠b.xs:=by
 rw[o9,aH (by omega)]
 cases s with
 |nil=>exact λe=>(h.each b (by simp)).2.1 e.symm
 |cons c s=>
  have h1:=(qD.1 h.ord).1 c (by simp)
  by_cases e:b.y1=c.y0
  ·rw[fY.pd (by omega) (by have:=(h.tail.each c (by simp)).1;omega)]
   grind
  ·rw[h.tail.Ad (by omega)];exact λe=>(h.each b (by simp)).2.1 e.symm
theorem FL:∀{s t:Z Bd},fY s->fY t->(∀y,rowAt s y=rowAt t y)->s=t
 | [],[],_,_,_=>rfl
 | [],c::t,_,ht,h=>by
  have hc:=ht.each c (by simp);have:=h c.y0;rw[fY.pd (Int.le_refl _) hc.1]at this;exact absurd this.symm hc.2.1
 |b::s,[],hs,_,h=>by
  have hb:=hs.each b (by simp);have:=h b.y0;rw[fY.pd (Int.le_refl _) hb.1]at this;exact absurd this hb.2.1
 |b::s,c::t,hs,ht,h=>by
  have hb:=hs.each b (by simp);have hc:=ht.each c (by simp);have e0:b.y0=c.y0:=by
   rcases Int.lt_trichotomy b.y0 c.y0 with h1|h1|h1
   ·have h2:=h b.y0;rw[fY.pd (Int.le_refl _) hb.1,ht.Ad h1]at h2;exact absurd h2 hb.2.1
   ·exact h1
   ·have h2:=h c.y0;rw[fY.pd (Int.le_refl _) hc.1,hs.Ad h1]at h2;exact absurd h2.symm hc.2.1
  have ex:b.xs=c.xs:=by
   have h2:=h b.y0;rw[fY.pd (Int.le_refl _) hb.1,fY.pd (by omega) (by omega)]at h2;exact h2
  have e1:b.y1=c.y1:=by
   rcases Int.lt_trichotomy b.y1 c.y1 with h1|h1|h1
   ·have h2:=h b.y1;rw[fY.pd (b:=c) (by omega) h1]at h2;exact absurd (h2.trans ex.symm) hs.MF
   ·exact h1
   ·have h2:=h c.y1;rw[fY.pd (b:=b) (by omega) h1]at h2;exact absurd (h2.symm.trans ex) ht.MF
  have ebc:b=c:=by cases b;cases c;simp_all
  subst ebc;rw[FL hs.tail ht.tail<|λy=>?_]
  by_cases hy:b.y1<=y
  ·have h2:=h y;unfold rowAt at h2;rw[aH (by omega),aH (by omega)]at h2;exact h2
  ·rw[nA (λd hd=>by have:=hs.FK d hd;omega),nA (λd hd=>by have:=ht.FK d hd;omega)]
def yW(s:Z Bd)(x y:Int):Bool:=sq (rowAt s y) x
theorem HC{s:Z Bd}(h:∀b∈s,kC b.xs)(y:Int):kC (rowAt s y):=by
 induction s with
 |nil=>exact ky
 |cons b s ih=>
  grind [rowAt,ja]
theorem yb{s t:Z Bd}(hs:fY s)(ht:fY t)(h:∀x y,yW s x y=yW t x y):s=t:=
 FL hs ht λy=>FI (HC (λb hb=>(hs.each b hb).2.2.1) y) (HC (λb hb=>(ht.each b hb).2.2.1) y) λx=>h x y
def kU(s:Z Bd)(b:Bd):Z Bd:=
 if b.xs= []\/b.y1<=b.y0 then s else
  match s.getLast? with
  |some c=>if c.y1=b.y0/\c.xs=b.xs then s.dropLast++[⟨c.y0,b.y1,c.xs⟩]else s++[b]
  |none=>[b]
theorem vk{α:Type}{s:Z α}{c:α}(h:s.getLast? =some c):s=s.dropLast++[c]:=by
 have hne:s≠[]:=λe=>by grind
 grind [List.getLast?_eq_some_getLast,List.dropLast_concat_getLast]
theorem Ae{s:Z Bd}{b:Bd}(hs:∀c∈s,c.y1<=b.y0)(hg:∀c∈s,c.y0<c.y1)(hb:b.y1<=b.y0->b.y1=b.y0)(y:Int):rowAt (kU s b) y=if b.y0<=y/\y<b.y1 then b.xs else rowAt s y:=by
 have key:∀(s:Z Bd)(c:Bd),(∀d∈s,d.y1<=c.y0)->rowAt (s++[c]) y=if c.y0<=y/\y<c.y1 then c.xs else rowAt s y:=by
  intro s c h;rw[uz]
  by_cases h1:c.y0<=y/\y<c.y1
  ·grind [fY.pd]
  ·rw[aH h1]
   by_cases h2:∃d∈s,d.y0<=y/\y<d.y1
   all_goals grind [o9,rowAt,nA]
 unfold kU
 by_cases h0:b.xs= []\/b.y1<=b.y0
 ·grind [nA]
 ·rw[aH h0]
  cases hl:s.getLast? with
  |none=>
   have:s= []:=by simp_all
   subst this;rfl
  |some c=>
   dsimp only;have hsp:=vk hl;have hcm:c∈s:=by rw[hsp];simp
   by_cases h1:c.y1=b.y0/\c.xs=b.xs
   ·rw[aF h1];have hd:∀d∈s.dropLast,d.y1<=c.y0\/True:=λ_ _=> .inr trivial;rw[uz];have hrow:rowAt s y=if(∃d∈s.dropLast,d.y0<=y/\y<d.y1)then rowAt s.dropLast y else(if c.y0<=y/\y<c.y1 then c.xs else []):=by
     conv=>lhs;rw[hsp]
     rw[uz];rfl
    rw[hrow];have hcg:=hg c hcm
    by_cases h2:∃d∈s.dropLast,d.y0<=y/\y<d.y1
    ·obtain⟨d,hd,hd2⟩:=h2;have:=hs d<|List.dropLast_subset _ hd
     have he:∃d∈s.dropLast,d.y0<=y/\y<d.y1:=⟨d,hd,hd2⟩;rw[aF he,aF he,aH (by omega)]
    ·rw[aH h2,aH h2];show(if c.y0<=y/\y<b.y1 then c.xs else [])=_
     by_cases h3:b.y0<=y/\y<b.y1
     ·rw[aF h3,aF ⟨by omega,h3.2⟩,h1.2]
     ·rw[aH h3]
      by_cases h4:c.y0<=y/\y<c.y1
      ·rw[aF h4,aF ⟨h4.1,by omega⟩]
      ·rw[aH h4,aH (by omega)]
   ·rw[aH h1];exact key s b hs
theorem Af{s:Z Bd}{b:Bd}(h:fY s)(hs:∀c∈s,c.y1<=b.y0)(hb:kC b.xs)(he:b.xs.length % 2=0):fY (kU s b):=by
 unfold kU
 by_cases h0:b.xs= []\/b.y1<=b.y0
 ·grind
 ·rw[aH h0];have hbg:b.y0<b.y1/\b.xs≠[]/\kC b.xs/\b.xs.length % 2=0:=⟨by omega,λe=>h0<|.inl e,hb,he⟩
  cases hl:s.getLast? with
  |none=>exact⟨λc hc=>by grind,List.pairwise_singleton _ _⟩
  |some c=>
   dsimp only;have hsp:=vk hl;have hcm:c∈s:=by rw[hsp];simp
   have hc:=h.each c hcm;have hord:=h.ord;rw[hsp,List.pairwise_append]at hord
   by_cases h1:c.y1=b.y0/\c.xs=b.xs
   ·rw[aF h1];refine⟨λd hd=>?_,?_⟩
    ·rcases dJ.1 hd with hd|hd
     ·exact h.each d<|List.dropLast_subset _ hd
     grind
    grind
   ·rw[aH h1];refine⟨λd hd=>?_,?_⟩
    ·rcases dJ.1 hd with hd|hd
     ·exact h.each d hd
     ·simp at hd;subst hd;exact hbg
    ·rw[List.pairwise_append];refine⟨h.ord,List.pairwise_singleton _ _,λd hd e he=>?_⟩;simp at he;subst he;refine⟨hs d hd,λe1 e2=>?_⟩;rw[hsp]at hd
     rcases dJ.1 hd with hd|hd
     ·have h2:=(hord.2.2 d hd c (by simp)).1;have:=hs c hcm;omega
     ·simp at hd;subst hd;exact h1 ⟨e1,e2⟩
theorem Ag{s:Z Bd}{b:Bd}(hs:∀c∈s,c.y1<=b.y0)(hb:b.y0<=b.y1):∀c∈kU s b,c.y1<=b.y1:=by
 grind [kU,List.dropLast_subset]
section
variable {N:Nat}
def cR(b:aA):Bd:=⟨b.Y0,b.Y1,b.Xs⟩
def small(a:Int):Prop:= -1099511627776<=a/\a<=1099511627776
structure GK (r:aG):Prop where
 x:r.X0<r.X1
 y:r.Y0<r.Y1
 s1:small r.X0
 s2:small r.X1
 s3:small r.Y0
 s4:small r.Y1
def LH(l:Z aG)(x:Int):Bool:=l.any<|λr=>decide (r.X0<=x)&&decide (x<r.X1)
def vW(l:Z aG)(x y:Int):Bool:=l.any<|λr=>(decide (r.X0<=x)&&decide (x<r.X1))&&(decide (r.Y0<=y)&&decide (y<r.Y1))
theorem FM{l:Z aG}{x:Int}:LH l x=true↔∃r∈l,r.X0<=x/\x<r.X1:=by simp[LH,lV]
theorem kV{l:Z aG}{x y:Int}:vW l x y=true↔∃r∈l,(r.X0<=x/\x<r.X1)/\r.Y0<=y/\y<r.Y1:=by simp[vW,lV]
theorem FN{a b:Int}(ha:small a)(hb:small b):wrap .i64 (a - b)=a - b:=by grind [small,gC]
theorem FO{n:Nat}(h:0<n)(hn:n<=4611686018427387904):wrap .i64 ((n:Int) - 1)=((n - 1:Nat):Int):=iL h hn
structure Wb (out:Z Int) (m:Z aG) (k:Nat):Prop where
 row:(k=0/\out= [])\/∃A s e,out=A++[s,e]/\kC A/\(∀c∈A,c<s)/\A.length % 2=0/\s<e/\∃j r,j<k/\m[j]? =some r/\s=r.X0
 sq:∀x,sq out x=LH (m.take k) x
 len:out.length<=2*k
 mem:∀c∈out,∃r∈m,c=r.X0\/c=r.X1
theorem Du(l:Z aG)(r:aG)(x:Int):LH (l++[r]) x=(LH l x||(decide (r.X0<=x)&&decide (x<r.X1))):=by simp[LH,List.any_append]
theorem Ix{l:Z aG}(hl:l.length<=268435456)(hok:∀r∈l,GK r):∃row l',kX N l=some (row,l')/\l'.Perm l/\kC row/\row.length % 2=0/\(∀x,sq row x=LH l x)/\row.length<=2*l.length/\∀c∈row,∃r∈l,c=r.X0\/c=r.X1:=by
 unfold kX
 obtain⟨m,h1,h2,h3⟩:=FF (φ:=jk N) (l:=l) (λa b=>a.X0 - b.X0) (λa ha b hb=>by
  unfold jk;rw[FN (hok a ha).s1 (hok b hb).s1]) (λa _=>by omega) (λa _ b _ c _ h1 h2=>by omega) (λa _ b _ c _ h1 h2=>by omega) (by omega)
 have hml:m.length=l.length:=h2.length_eq;have hmok:∀r∈m,GK r:=λr hr=>hok r<|h2.subset hr
 rw[h1,aB];obtain⟨out,a1,a2⟩:=ES (m:=m.length) (s:=([]:Z Int)) (body:=λ(k32:Nat)(s33:Z Int)=>((idx m (k32:Int)).bind λx79=>(bif decide (wrap .i64 ((s33.length:Int) - 1)>=0)then((idx s33<|wrap .i64<|(s33.length:Int) - 1).bind λx86=>some<|decide<|x79.X0<=x86)else some false).bind λs84=>(bif s84 then((idx s33<|wrap .i64<|(s33.length:Int) - 1).bind λx94=>(idx s33<|wrap .i64<|(s33.length:Int) - 1).bind λx95=>some<|s33.set (Int.toNat<|wrap .i64<|(s33.length:Int) - 1) (if x94<x79.X1 then x79.X1 else x94))else((app 8 s33 ([x79.X0,x79.X1]:Z Int)).bind λx97=>some x97)).bind λs92=>some s92:aT (Z Int)))
  (λk out=>Wb out m k) (by omega) ⟨.inl ⟨rfl,rfl⟩,λx=>rfl,by simp,λc hc=>by cases hc⟩ (λk out hk⟨i1,i2,i3,i4⟩=>by
   have hx:m[k]? =some m[k]:=aM hk;have hr:=hmok _<|cH hk
   rw[cB hx,aB];have hts:m.take (k+1)=m.take k++[m[k]]:=dM hk
   rcases i1 with⟨rfl,rfl⟩|⟨A,s,e,rfl,hA,hAs,hAe,hse,j,r,hj,hjr,hsr⟩
   ·rw[show decide (wrap .i64 (((([]:Z Int).length:Nat):Int) - 1)>=0)=false by decide,aR,aB,aR,j4 (by simp),aB,aB];refine⟨_,rfl, .inr ⟨[],_,_,rfl,ky,λc hc=>by simp at hc,rfl,hr.x,0,m[0],by omega,hx,rfl⟩,λx=>?_,by simp,λc hc=>⟨m[0],cH hk,by grind⟩⟩;rw[hts,Du,<-i2 x];exact FJ (l:=[]) (λc hc=>by simp at hc) rfl hr.x x
   ·have hlen:(A++[s,e]).length=A.length+2:=by simp
    have hwp:wrap .i64 ((((A++[s,e]).length:Nat):Int) - 1)=((A.length+1:Nat):Int):=by grind [FO]
    have hlast:(A++[s,e])[A.length+1]? =some e:=by simp
    have hs:s<=m[k].X0:=by
     grind [ou,bR]
    rw[hwp,bS (by omega),aP,cB hlast,aB,aB]
    by_cases hc:m[k].X0<=e
    ·rw[bS hc,aP,aB,aB,aB,cK];have py:(A++[s,e]).set (A.length+1) (if e<m[k].X1 then m[k].X1 else e)=A++[s,max e m[k].X1]:=by
      rw[List.set_append_right _ _ (by omega)];have:A.length+1 - A.length=1:=by omega
      rw[this,Int.max_def];simp only[List.set_cons_succ,List.set_cons_zero];congr 2;split <;> split <;> simp <;> omega
     rw[py]
     refine⟨_,rfl, .inr ⟨A,s,_,rfl,hA,hAs,hAe,by omega,j,r,by omega,hjr,hsr⟩,λx=>?_,by simp at i3 ⊢;omega,λc hc=>by
      rcases dJ.1 hc with h|h
      ·exact i4 c<|List.mem_append_left _ h
      ·simp at h
       rcases h with h|h
       ·exact i4 c (by simp[h])
       ·rw[Int.max_def]at h;split at h
        ·exact⟨_,cH hk, .inr h⟩
        ·exact i4 c (by simp[h])⟩
     rw[hts,Du,<-i2 x];exact OQ hAs hAe hse hs hc hr.x x
    ·rw[cA hc,aR,j4 (by rw[hlen];simp;omega),aB,aB];have hall:∀c∈A++[s,e],c<m[k].X0:=λc hc'=>by
      rcases dJ.1 hc' with h|h
      ·have:=hAs c h;omega
      ·simp at h;omega
     refine⟨_,rfl, .inr ⟨A++[s,e],_,_,rfl,hA.snoc hAs hse,hall,by rw[hlen];omega,hr.x,k,m[k],by omega,hx,rfl⟩,λx=>?_,by simp at i3 ⊢;omega,λc hc=>by
      rcases dJ.1 hc with h|h
      ·exact i4 c h
      ·exact⟨m[k],cH hk,by simpa using h⟩⟩
     rw[hts,Du,<-i2 x]
     exact FJ hall (by rw[hlen];omega) hr.x x)
 rw[a1,aB];refine⟨out,m,rfl,h2,?_,?_,λx=>?_,by rw[<-hml];exact a2.len,λc hc=>by obtain⟨r,hr,h⟩:=a2.mem c hc;exact⟨r,h2.subset hr,h⟩⟩
 ·rcases a2.row with⟨_,h⟩|⟨A,s,e,rfl,hA,hAs,hAe,hse,_⟩
  ·rw[h];exact ky
  ·exact hA.snoc hAs hse
 ·rcases a2.row with⟨_,h⟩|⟨A,s,e,rfl,hA,hAs,hAe,hse,_⟩
  ·rw[h];rfl
  ·simp;omega
 ·rw[a2.sq x,eD,jd,FM,FM];constructor
  ·rintro⟨r,hr,h⟩;exact⟨r,h2.subset hr,h⟩
  ·rintro⟨r,hr,h⟩;exact⟨r,h2.symm.subset hr,h⟩
theorem Np{l m:Z Int}(hl:l.length<=4611686018427387904):pC N l m=some (decide<|l=m):=Ac hl
theorem MG{s:Z aA}{b:aA}(hs:s.length<=1048576000)(hx:∀c∈s,c.Xs.length<=1048576000):∃s',kE N s b=some s'/\s'.map cR=kU (s.map cR) (cR b):=by
 unfold kE kU
 by_cases h0:b.Xs= []\/b.Y1<=b.Y0
 ·have e:(((b.Xs.length:Int)==0)||decide (b.Y1<=b.Y0))=true:=by
   grind
  rw[e,aP,aF (show(cR b).xs= []\/(cR b).y1<=(cR b).y0 from h0)];simp
 ·have e:(((b.Xs.length:Int)==0)||decide (b.Y1<=b.Y0))=false:=by
   simp_all
  rw[e,aR,aH (show ¬((cR b).xs= []\/(cR b).y1<=(cR b).y0)from h0)]
  rcases List.eq_nil_or_concat s with rfl|⟨A,c,hA⟩
  ·rw[show decide (wrap .i64 (((([]:Z aA).length:Nat):Int) - 1)>=0)=false by decide,aR,aB,aR,j4 (by simp),aB];simp
  ·rw[List.concat_eq_append]at hA;subst hA;have hlen:(A++[c]).length=A.length+1:=by simp
   have hwp:wrap .i64 ((((A++[c]).length:Nat):Int) - 1)=(A.length:Int):=by grind [FO]
   have hlast:(A++[c])[A.length]? =some c:=by simp
   rw[hwp,bS (by omega),aP,cB hlast,aB,aB,Np (by grind),aB,aB,cK,j4 (by grind),aB];have hl2:((A++[c]).map cR).getLast? =some (cR c):=by simp
   have hd2:((A++[c]).map cR).dropLast=A.map cR:=by simp
   rw[hl2,hd2];dsimp only
   by_cases h1:c.Y1=b.Y0/\c.Xs=b.Xs
   ·grind [cR,bS,aB,List.set_append_right]
   grind [cR]
end
def dU(l:Z (Int×Int)):Z Int:=l.flatMap λs=>[s.1,s.2]
def kA(l:Z (Int×Int))(x:Int):Bool:=l.any λs=>decide (s.1<=x)&&decide (x<s.2)
theorem k6(s:Int×Int)(l:Z (Int×Int)):dU (s::l)=s.1::s.2::dU l:=rfl
theorem yc(l m:Z (Int×Int)):dU (l++m)=dU l++dU m:=List.flatMap_append
theorem lE(l:Z (Int×Int)):(dU l).length=2*l.length:=by
 induction l with
 |nil=>rfl
 |cons s l ih=>grind [k6,eN]
theorem HD(s:Int×Int)(l:Z (Int×Int))(x:Int):kA (s::l) x=((decide (s.1<=x)&&decide (x<s.2))||kA l x):=rfl
theorem Ke(l m:Z (Int×Int))(x:Int):kA (l++m) x=(kA l x||kA m x):=List.any_append
theorem xf{l:Z (Int×Int)}{x:Int}:kA l x=true↔∃s∈l,s.1<=x/\x<s.2:=by
 simp[kA]
theorem Nq{a b:Int}{m:Z Int}(h:kC (a::b::m))(x:Int):sq (a::b::m) x=((decide (a<=x)&&decide (x<b))||sq m x):=by
 have hab:a<b:=h.head b (by simp);have hm:=h.tail.head
 grind [EU,sd,FH]
theorem xg:∀{l:Z (Int×Int)},kC (dU l)->∀x,sq (dU l) x=kA l x
 | [],_,x=>rfl
 |s::l,h,x=>by
  rw[k6]at h ⊢;rw[Nq h,HD,xg h.tail.tail]
theorem HE:∀{l m:Z (Int×Int)},dU l=dU m->l=m
 | [],[],_=>rfl
 | [],s::m,h=>by cases h
 |s::l,[],h=>by cases h
 |(a,b)::l,(c,d)::m,h=>by
  rw[k6,k6]at h;injection h with h1 h2
  injection h2 with h2 h3
  simp only at h1 h2;rw[h1,h2,HE h3]
theorem Dv{l:Z (Int×Int)}{c:Int}(h:c∈dU l):∃s∈l,c=s.1\/c=s.2:=by
 obtain⟨s,hs,hc⟩:=List.mem_flatMap.1 h
 grind
theorem zF{l:Z (Int×Int)}(h:kC (dU l)):∀s∈l,s.1<s.2:=by
 induction l with
 |nil=>simp
 |cons a l ih=>
  rw[k6]at h;intro s hs
  rcases fp.1 hs with rfl|hs
  ·exact h.head _ (by simp)
  ·exact ih h.tail.tail s hs
theorem Ah{l m:Z (Int×Int)}:kC (dU<|l++m)↔kC (dU l)/\kC (dU m)/\∀s∈l,∀t∈m,s.2<t.1:=by
 rw[yc];unfold kC;rw[List.pairwise_append];constructor
 ·rintro⟨h1,h2,h3⟩;exact⟨h1,h2,λs hs t ht=>h3 s.2 (List.mem_flatMap.2 ⟨s,hs,by simp⟩) t.1<|List.mem_flatMap.2 ⟨t,ht,by simp⟩⟩
 ·rintro⟨h1,h2,h3⟩;refine⟨h1,h2,λa ha b hb=>?_⟩;obtain⟨s,hs,ha⟩:=Dv ha;obtain⟨t,ht,hb⟩:=Dv hb;have h4:=h3 s hs t ht;have h5:=zF (l:=l) h1 s hs;have h6:=zF (l:=m) h2 t ht;omega
def l7(s:Int×Int):Z (Int×Int)->(Int×Int)×Z (Int×Int)
 | []=>(s,[])
 |a::l=>if a.1<=s.2 then l7 (min s.1 a.1,max s.2 a.2) l else(s,a::l)
def nB(l:Z (Int×Int))(s:Int×Int):Z (Int×Int):=
 l.takeWhile (λa=>decide<|a.2<s.1)++(l7 s<|l.dropWhile λa=>decide<|a.2<s.1).1::(l7 s<|l.dropWhile λa=>decide<|a.2<s.1).2
theorem D3:∀(l:Z (Int×Int))(s:Int×Int),s.1<s.2->kC (dU l)->(∀a∈l,s.1<=a.2)->
  (l7 s l).1.1<(l7 s l).1.2/\((l7 s l).1.1=s.1\/∃a∈l,(l7 s l).1.1=a.1)/\kC (dU (l7 s l).2)/\(∀t∈(l7 s l).2,(l7 s l).1.2<t.1)/\
  ∀x,kA ((l7 s l).1::(l7 s l).2) x=((decide (s.1<=x)&&decide (x<s.2))||kA l x)
 | [],s,h,_,_=>⟨h, .inl rfl,ky,λt(ht:t∈([]:Z (Int×Int)))=>(by cases ht),λx=>rfl⟩
 |a::l,s,h,hi,hs=>by
  have hsp:=zF hi;have ha:=hsp a (by simp);have hi':=hi;rw[k6]at hi';have hsa:=hs a (by simp);unfold l7
  by_cases hc:a.1<=s.2
  ·rw[aF hc];have hlt:(min s.1 a.1,max s.2 a.2).1<(min s.1 a.1,max s.2 a.2).2:=by dsimp only;omega
   obtain⟨h1,h2,h3,h4,h5⟩:=D3 l (min s.1 a.1,max s.2 a.2) hlt hi'.tail.tail (λb hb=>by
    grind)
   refine⟨h1,?_,h3,h4,λx=>?_⟩
   ·rcases h2 with h2|⟨b,hb,h2⟩
    ·rw[h2]
     rcases Int.le_total s.1 a.1 with h6|h6
     ·exact .inl (by omega)
     ·exact .inr ⟨a,by simp,by omega⟩
    ·exact .inr ⟨b,ja _ hb,h2⟩
   ·rw[h5,HD,<-Bool.or_assoc];congr 1;clear h1 h2 h3 h4 h5;rw[jd];simp only[jc,dB,dF];constructor
    ·intro h6
     by_cases h7:s.1<=x/\x<s.2
     ·exact .inl h7
     ·exact .inr (by omega)
    ·rintro(h6|h6) <;> omega
  ·rw[aH hc];refine⟨h, .inl rfl,hi,λt ht=>?_,λx=>rfl⟩;show s.2<t.1
   rcases fp.1 ht with rfl|ht
   ·omega
   ·have:=((Ah (l:=[a]) (m:=l)).1 hi).2.2 a (by simp) t ht;omega
theorem Iy{l:Z (Int×Int)}{c:Int}(h:kC (dU l)):∀a∈l.dropWhile (λa=>decide<|a.2<c),c<=a.2:=by
 induction l with
 |nil=>simp
 |cons b l ih=>
  have h':=h;rw[k6]at h';rw[List.dropWhile_cons]
  by_cases hb:b.2<c
  ·rw[aF (by grind)];exact ih h'.tail.tail
  ·rw[aH (by grind)];intro a ha
   rcases fp.1 ha with rfl|ha
   ·omega
   ·have h1:=((Ah (l:=[b]) (m:=l)).1 h).2.2 b (by simp) a ha;have h2:=zF h a<|ja _ ha
    omega
theorem Iz(l:Z (Int×Int))(c:Int):∀a∈l.takeWhile (λa=>decide<|a.2<c),a.2<c:=by
 induction l with
 |nil=>simp
 |cons b l ih=>
  rw[List.takeWhile_cons]
  grind
theorem CJ{l:Z (Int×Int)}{s:Int×Int}(h:kC (dU l))(hs:s.1<s.2):
  kC (dU<|nB l s)/\∀x,kA (nB l s) x=((decide (s.1<=x)&&decide (x<s.2))||kA l x):=by
 have hsplit:=h;rw[<-List.takeWhile_append_dropWhile (p:=λa:Int×Int=>decide<|a.2<s.1) (l:=l),Ah]at hsplit;obtain⟨h1,h2,h3⟩:=hsplit;obtain⟨m1,m2,m3,m4,m5⟩:=D3 (l.dropWhile λa=>decide<|a.2<s.1) s hs h2<|Iy h
 unfold nB;refine⟨Ah.2 ⟨h1,?_,λa ha t ht=>?_⟩,λx=>?_⟩
 ·rw[k6];have h4:∀c∈dU (l7 s<|l.dropWhile λa=>decide<|a.2<s.1).2,(l7 s<|l.dropWhile λa=>decide<|a.2<s.1).1.2<c:=λc hc=>by
   obtain⟨t,ht,hc⟩:=Dv hc;have:=m4 t ht;have:=zF m3 t ht;omega
  exact qD.2 ⟨λc hc=>by
   grind,qD.2 ⟨h4,m3⟩⟩
 ·grind [Iz]
 grind [Ke,List.takeWhile_append_dropWhile,decide,Bool.or_left_comm]
def l8:Z Int->Z (Int×Int)
 |a::b::l=>(a,b)::l8 (b::l)
 |_=>[]
theorem uL:∀{xs:Z Int},kC xs->∀s∈l8 xs,s.1∈xs/\s.2∈xs/\s.1<s.2/\∀c∈xs,c<=s.1\/s.2<=c
 | [],_,s,hs=>by cases hs
 | [a],_,s,hs=>by cases hs
 |a::b::l,h,s,hs=>by
  have hab:=h.head b (by simp)
  rcases fp.1 hs with rfl|hs
  ·refine⟨by simp,by simp,hab,λc hc=>?_⟩
   rcases fp.1 hc with rfl|hc
   ·exact .inl<|Int.le_refl _
   ·rcases fp.1 hc with rfl|hc
    ·exact .inr<|Int.le_refl _
    ·exact .inr (by have:=h.tail.head c hc;omega)
  ·obtain⟨h1,h2,h3,h4⟩:=uL h.tail s hs;refine⟨ja _ h1,ja _ h2,h3,λc hc=>?_⟩
   rcases fp.1 hc with rfl|hc
   ·exact .inl (by have:=h.head s.1 h1;omega)
   ·exact h4 c hc
theorem BM:∀{xs:Z Int},kC xs->∀x,(∃s∈l8 xs,s.1<=x/\x<s.2)\/(∀c∈xs,x<c)\/(∀c∈xs,c<=x)
 | [],_,x=> .inr (.inl λc hc=>by cases hc)
 | [a],_,x=>by
  by_cases h:x<a
  ·exact .inr (.inl λc hc=>by grind)
  ·exact .inr (.inr λc hc=>by grind)
 |a::b::l,h,x=>by
  have hab:=h.head b (by simp)
  rcases BM h.tail x with⟨s,hs,h1⟩|h1|h1
  ·exact .inl ⟨s,ja _ hs,h1⟩
  ·by_cases h2:x<a
   ·exact .inr (.inl λc hc=>by
     grind)
   ·exact .inl ⟨(a,b),by simp[l8],by omega,h1 b (by simp)⟩
  ·exact .inr (.inr λc hc=>by
    rcases fp.1 hc with rfl|hc
    ·have:=h1 b (by simp);omega
    grind)
def Ends(a:Z (Int×Int))(xs:Z Int):Prop:=∀s∈a,s.1∈xs/\s.2∈xs
theorem MH{a:Z (Int×Int)}{xs:Z Int}(he:Ends a xs)(hx:kC xs){s:Int×Int}(hs:s∈l8 xs){x:Int}(h1:s.1<=x)(h2:x<s.2):kA a x=kA a s.1:=by
 obtain⟨_,_,h3,h4⟩:=uL hx s hs;rw[jd,xf,xf];constructor
 ·rintro⟨t,ht,h5,h6⟩;have:=h4 _ (he t ht).1
  grind
 ·rintro⟨t,ht,h5,h6⟩;have:=h4 _ (he t ht).2
  grind
theorem MI{a:Z (Int×Int)}{xs:Z Int}(he:Ends a xs){x:Int}(h:(∀c∈xs,x<c)\/(∀c∈xs,c<=x)):kA a x=false:=by
 rw[<-ot,xf];rintro⟨t,ht,h5,h6⟩;obtain⟨e1,e2⟩:=he t ht
 grind
def oh(iU:Bool->Bool->Bool)(a b:Z (Int×Int))(ss:Z (Int×Int))(out:Z (Int×Int)):Z (Int×Int):=
 ss.foldl (λout s=>if iU (kA a s.1) (kA b s.1)=true then nB out s else out) out
theorem zG(iU:Bool->Bool->Bool)(a b:Z (Int×Int)):∀(ss out:Z (Int×Int)),kC (dU out)->(∀s∈ss,s.1<s.2)->
  kC (dU<|oh iU a b ss out)/\∀x,kA (oh iU a b ss out) x=(kA out x||ss.any λs=>iU (kA a s.1) (kA b s.1)&&(decide (s.1<=x)&&decide (x<s.2)))
 | [],out,h,_=>⟨h,λx=>by simp[oh]⟩
 |s::ss,out,h,hs=>by
  have h0:=hs s (by simp);unfold oh;rw[List.foldl_cons]
  by_cases hk:iU (kA a s.1) (kA b s.1)=true
  ·rw[aF hk];obtain⟨j1,j2⟩:=CJ h h0;obtain⟨m1,m2⟩:=zG iU a b ss (nB out s) j1<|λt ht=>hs t<|ja _ ht
   refine⟨m1,λx=>?_⟩;rw[show kA (List.foldl _ (nB out s) ss) x=_ from m2 x,j2,List.any_cons,hk,Bool.true_and]
   cases kA out x <;> simp
  ·rw[aH hk];obtain⟨m1,m2⟩:=zG iU a b ss out h<|λt ht=>hs t<|ja _ ht
   refine⟨m1,λx=>?_⟩;rw[show kA (List.foldl _ out ss) x=_ from m2 x,List.any_cons,eq_false_of_ne_true hk,Bool.false_and,Bool.false_or]
theorem Kf{iU:Bool->Bool->Bool}(hk:iU false false=false){a b:Z (Int×Int)}{xs:Z Int}(hx:kC xs)(ha:Ends a xs)(hb:Ends b xs):
  kC (dU<|oh iU a b (l8 xs) [])/\∀x,kA (oh iU a b (l8 xs) []) x=iU (kA a x) (kA b x):=by
 obtain⟨m1,m2⟩:=zG iU a b (l8 xs) [] ky<|λs hs=>(uL hx s hs).2.2.1
 refine⟨m1,λx=>?_⟩;rw[m2,show kA [] x=false from rfl,Bool.false_or]
 rcases BM hx x with⟨s,hs,h1,h2⟩|h
 ·rw[jd,lV];constructor
  ·rintro⟨t,ht,h3⟩
   grind [MH]
  grind [MH,bS]
 ·rw[MI ha h,MI hb h,hk,<-ot,lV];rintro⟨t,ht,h3⟩;rw[dB,dB,dF,dF]at h3;obtain⟨e1,e2,_⟩:=uL hx t ht
  grind
def oj(f:Int->Z Int)(ss:Z (Int×Int))(out:Z Bd):Z Bd:=ss.foldl (λout s=>kU out ⟨s.1,s.2,f s.1⟩) out
theorem D4(f:Int->Z Int)(hf:∀y,kC (f y)/\(f y).length % 2=0):∀(ys:Z Int)(out:Z Bd),kC ys->fY out->(∀c∈out,∀y∈ys,c.y1<=y)->
  fY (oj f (l8 ys) out)/\∀y,rowAt (oj f (l8 ys) out) y=match(l8 ys).find? (λs=>decide (s.1<=y)&&decide (y<s.2))with|some s=>f s.1|none=>rowAt out y
 | [],out,_,h,_=>⟨h,λy=>rfl⟩
 | [a],out,_,h,_=>⟨h,λy=>rfl⟩
 |a::b::l,out,hi,h,ho=>by
  have hab:=hi.head b (by simp);have ho1:∀c∈out,c.y1<=(⟨a,b,f a⟩:Bd).y0:=λc hc=>ho c hc a (by simp);have hc:=Af (b:=⟨a,b,f a⟩) h ho1 (hf a).1 (hf a).2;have htop:=Ag (b:=⟨a,b,f a⟩) ho1 (by show a<=b;omega)
  obtain⟨m1,m2⟩:=D4 f hf (b::l) (kU out ⟨a,b,f a⟩) hi.tail hc (λc hc' y hy=>by
   have h1:=htop c hc';have h2:b<=y:=by
    rcases fp.1 hy with rfl|hy
    ·exact Int.le_refl _
    ·have:=hi.tail.head y hy;omega
   have h3:c.y1<=b:=h1
   omega)
  refine⟨m1,λy=>?_⟩;show rowAt (oj f (l8<|b::l)<|kU out ⟨a,b,f a⟩) y=_;rw[m2 y,show l8 (a::b::l)=(a,b)::l8 (b::l)from rfl,List.find?_cons];have hrow:=Ae (s:=out) (b:=⟨a,b,f a⟩) ho1 (λc hc=>(h.each c hc).1) (λh=>absurd h (by show ¬b<=a;omega)) y
  by_cases hy:a<=y/\y<b
  ·have e:(decide (a<=y)&&decide (y<b))=true:=by rw[bS hy.1,bS hy.2];rfl
   have hn:(l8<|b::l).find? (λs=>decide (s.1<=y)&&decide (y<s.2))=none:=by
    rw[List.find?_eq_none];intro s hs;have:=(uL hi.tail s hs).1;have h5:b<=s.1:=by
     rcases fp.1 this with h6|h6
     ·omega
     ·have:=hi.tail.head _ h6;omega
    simp;omega
   rw[hn];show rowAt (kU out ⟨a,b,f a⟩) y=_;rw[hrow,aF hy,e]
  ·have e:(decide (a<=y)&&decide (y<b))=false:=by
    rw[Bool.and_eq_false_iff,decide_eq_false_iff_not,decide_eq_false_iff_not];omega
   rw[e]
   cases(l8<|b::l).find? (λs=>decide (s.1<=y)&&decide (y<s.2))with
   |some s=>rfl
   |none=>
    show rowAt (kU out ⟨a,b,f a⟩) y=rowAt out y;rw[hrow,aH hy]
theorem D5{f:Int->Z Int}(hf:∀y,kC (f y)/\(f y).length % 2=0){ys:Z Int}(hy:kC ys)(h1:∀s∈l8 ys,∀y,s.1<=y->y<s.2->f y=f s.1)(h2:∀y,((∀c∈ys,y<c)\/(∀c∈ys,c<=y))->f y= []):
  fY (oj f (l8 ys) [])/\∀y,rowAt (oj f (l8 ys) []) y=f y:=by
 obtain⟨m1,m2⟩:=D4 f hf ys [] hy fY.nil (λc hc=>by cases hc);refine⟨m1,λy=>?_⟩;rw[m2 y]
 cases U4:(l8 ys).find? (λs=>decide (s.1<=y)&&decide (y<s.2))with
 |some s=>
  grind
 |none=>
  show rowAt [] y=f y
  rcases BM hy y with⟨s,hs,h3,h4⟩|h3
  ·grind
  ·rw[h2 y h3];rfl
def Ok{β:Type}(o:aT β)(P:β->Prop):Prop:=∃r,o=some r/\P r
section
variable {α β S R:Type}{P:α->Prop}{Q:β->Prop}
theorem IS{x:β}(h:Q x):Ok (some x) Q:=⟨x,rfl,h⟩
theorem Ok.mono{o:aT α}{P':α->Prop}(h:Ok o P)(k:∀x,P x->P' x):Ok o P':=by obtain⟨x,h1,h2⟩:=h;exact⟨x,h1,k x h2⟩
theorem WO{o:aT α}{f:α->aT β}(h:Ok o P)(k:∀x,P x->Ok (f x) Q):Ok (o.bind f) Q:=by
 obtain⟨x,h1,h2⟩:=h;grind
theorem IT{o:aT α}{f:α->aT β}{x:α}(h:o=some x)(k:Ok (f x) Q):Ok (o.bind f) Q:=by grind
theorem Xn{b:Bool}{x y:aT β}(ht:b=true->Ok x Q)(hf:b=false->Ok y Q):Ok (bif b then x else y) Q:=by
 grind
theorem XL{o:aT β}{x:β}(h:Ok o (λr=>r=x)):o=some x:=by obtain⟨r,h1,h2⟩:=h;rw[h1,h2]
def UI(Go:S->Prop)(Rt:R->Prop):Fo S R->Prop| .go s=>Go s| .rt r=>Rt r
def PL(Nx Br:S->Prop)(Rt:R->Prop):Fl S R->Prop| .nx s=>Nx s| .br s=>Br s| .rt r=>Rt r
theorem W8{Nx Br:S->Prop}{Rt:R->Prop}{s:S}(h:Nx s):Ok (some<|Fl.nx s) (PL Nx Br Rt):=⟨_,rfl,h⟩
theorem Xd{Nx Br:S->Prop}{Rt:R->Prop}{s:S}(h:Br s):Ok (some<|Fl.br s) (PL Nx Br Rt):=⟨_,rfl,h⟩
theorem XR{Nx Br:S->Prop}{Rt:R->Prop}{r:R}(h:Rt r):Ok (some (Fl.rt r:Fl S R)) (PL Nx Br Rt):=⟨_,rfl,h⟩
theorem Xf{Go:S->Prop}{Rt:R->Prop}{o:Fo S R}{f:S->aT β}{g:R->aT β}(h:UI Go Rt o)(hf:∀s,Go s->Ok (f s) Q)(hg:∀r,Rt r->Ok (g r) Q):Ok (o.cs f g) Q:=by
 cases o with
 |go s=>exact hf s h
 |rt r=>exact hg r h
theorem XM{body:Nat->S->aT S}{m:Nat}{s:S}(Inv:Nat->S->Prop)(hm:m<=4611686018427387904)(h0:Inv 0 s)(h:∀k s,k<m->Inv k s->Ok (body k s) (Inv<|k+1)):Ok (kL m body s) (Inv m):=
 ES Inv hm h0 h
theorem Y7{body:Nat->S->aT (Fl S R)}{m:Nat}{s:S}(Inv:Nat->S->Prop){Go:S->Prop}{Rt:R->Prop}(hm:m<=4611686018427387904)(h0:Inv 0 s)
  (h:∀k s,k<m->Inv k s->Ok (body k s) (PL (Inv<|k+1) Go Rt)) (hg:∀s,Inv m s->Go s):Ok (vA m body s) (UI Go Rt):=by
 obtain⟨o,h1,h2⟩:=Qj (R:=R) Inv Go Rt hm h0 (λk s hk hi=>by
  obtain⟨fl,a1,a2⟩:=h k s hk hi
  exact⟨fl,a1,by cases fl <;> exact a2⟩) hg
 exact⟨o,h1,by cases o <;> exact h2⟩
theorem X2{body:S->aT (Fl S R)}{N:Nat}{s:S}(Inv:S->Prop)(μ:S->Nat){Go:S->Prop}{Rt:R->Prop}
  (h:∀s,Inv s->Ok (body s) (PL (λs'=>Inv s'/\μ s'<μ s) Go Rt)) (hi:Inv s) (hn:μ s<N):Ok (iD body N s) (UI Go Rt):=by
 obtain⟨o,h1,h2⟩:=Ct (R:=R) Inv μ Go Rt (λs hi=>by
  obtain⟨fl,a1,a2⟩:=h s hi
  exact⟨fl,a1,by cases fl <;> exact a2⟩) N s hi hn
 exact⟨o,h1,by cases o <;> exact h2⟩
theorem XC{b:Nat}{l ys:Z α}{f:Z α->aT β}(h:(l.length+ys.length)*b<=140737488355328)(k:Ok (f<|l++ys) Q):Ok ((Go.Gk.app b l ys).bind f) Q:=by grind [j4]
theorem XN{l:Z α}{i:Nat}{f:α->aT β}(h:i<l.length)(k:Ok (f l[i]) Q):Ok ((Go.Gk.idx l (i:Int)).bind f) Q:=by grind [nu]
theorem WV{l:Z α}{i:Nat}{x:α}{f:α->aT β}(h:l[i]? =some x)(k:Ok (f x) Q):Ok ((Go.Gk.idx l (i:Int)).bind f) Q:=by grind [cB]
end
theorem Kg{n:Nat}(h:n<=4611686018427387904):wrap .i64 (n:Int)=(n:Int):=by grind [gC]
theorem wrap_add{n m:Nat}(h:n+m<=4611686018427387904):wrap .i64 ((n:Int)+(m:Int))=((n+m:Nat):Int):=by grind [gC]
theorem bF{n:Nat}(h:n+1<=4611686018427387904):wrap .i64 ((n:Int)+1)=((n+1:Nat):Int):=by grind [gC]
theorem HF{n:Nat}(h:n+2<=4611686018427387904):wrap .i64 ((n:Int)+2)=((n+2:Nat):Int):=by grind [gC]
theorem fL{α:Type}[DecidableEq α]:∀{l m:Z α},l.Nodup->(∀x∈l,x∈m)->l.length<=m.length
 | [],m,_,_=>cP _
 |a::l,m,hn,hs=>by
  have ha:a∈m:=hs a (by simp);have hn':=List.nodup_cons.1 hn
  have:=fL (l:=l) (m:=m.erase a) hn'.2 (λx hx=>by
   grind)
  rw[List.length_erase_of_mem ha]at this;have:=List.length_pos_of_mem ha;simp;omega
section
variable {α:Type}{N:Nat}
def UJ(z:α)(N:Nat)(p0:Z α)(p1:α->aT Bool):aT (Z α):=
 (xU p0 p1).bind λx31=>bif x31==(-1)then some p0 else((iD (λ(s33:Z α×Int×Int)=>(bif decide (s33.2.2<(s33.1.length:Int))then((idx s33.1 s33.2.2).bind λx54=>(p1 x54).bind λx58=>(bif(!x58)then((idx s33.1 s33.2.1).bind λx63=>some (s33.1.set (Int.toNat s33.2.1) x54,wrap .i64<|s33.2.1+1))else some (s33.1,s33.2.1)).bind λs61=>some<|.nx (s61.1,s61.2,wrap .i64<|s33.2.2+1))else(some<|.br (s33.1,s33.2.1,s33.2.2)):aT (Fl (Z α×Int×Int) Empty))) N (p0,x31,wrap .i64<|x31+1)).bind λo67=>o67.cs (λ(s33:Z α×Int×Int)=>(vB s33.1 s33.2.1 (s33.1.length:Int)).bind λx64=>(vB (s33.1.take (Int.toNat s33.2.1)++List.replicate (s33.1.length - Int.toNat s33.2.1) z) 0 s33.2.1).bind λx65=>some x65)<|λr=>r.elim)
theorem OR{z:α}{l:Z α}{φ:α->aT Bool}(p:α->Bool)(hφ:∀x∈l,φ x=some (p x))(hl:l.length<=4611686018427387000)(hN:l.length<N):UJ z N l φ=some (l.filter<|λx=> !p x):=by
 unfold UJ;rw[A2 p (by omega) hφ,aB]
 rcases Ab l p with⟨h1,h2⟩|⟨k,x,h1,h2,h3,h4⟩
 ·grind [List.filter_eq_self]
 ·rw[h1,show((k:Int)== -1)=false by simp,aR];have hk:=(bR.1 h2).1;have hpre:(l.take k).filter (λx=> !p x)=l.take k:=List.filter_eq_self.2 λa ha=>by
   grind [eE,bR,dE,List.getElem?_take_of_lt]
  have hst:l.take (k+1)=l.take k++[x]:=by
   rw[dM hk];grind
  have hk1:wrap .i64 ((k:Int)+1)=((k+1:Nat):Int):=by grind [gC]
  rw[hk1];obtain⟨o,a1,a2⟩:=Ct (S:=Z α×Int×Int) (R:=Empty) (body:=λ(s33:Z α×Int×Int)=>(bif decide (s33.2.2<(s33.1.length:Int))then((idx s33.1 s33.2.2).bind λx54=>(φ x54).bind λx58=>(bif(!x58)then((idx s33.1 s33.2.1).bind λx63=>some (s33.1.set (Int.toNat s33.2.1) x54,wrap .i64<|s33.2.1+1))else some (s33.1,s33.2.1)).bind λs61=>some<|.nx (s61.1,s61.2,wrap .i64<|s33.2.2+1))else(some<|.br (s33.1,s33.2.1,s33.2.2)):aT (Fl (Z α×Int×Int) Empty)))
   (λs=>∃i j:Nat,s.2.1=((i:Nat):Int)/\s.2.2=(j:Int)/\i<j/\j<=l.length/\s.1.length=l.length/\s.1.take i=(l.take j).filter (λx=> !p x)/\∀m,j<=m->s.1[m]? =l[m]?)
   (λs=>l.length - s.2.2.toNat) (λs=>∃i:Nat,s.2.1=((i:Nat):Int)/\i<=l.length/\s.1.length=l.length/\s.1.take i=l.filter (λx=> !p x)) (λ_=>True) (λs⟨i,j,e1,e2,hij,hj,hlen,ht,hd⟩=>by
    obtain⟨s,a,b⟩:=s;dsimp only at e1 e2 hlen ht hd ⊢;subst e1;subst e2
    by_cases hlt:j<l.length
    ·rw[bS (by omega),aP];have hx:s[j]? =some l[j]:=by grind
     have w1:wrap .i64 ((j:Int)+1)=((j+1:Nat):Int):=by grind [gC]
     have w2:wrap .i64 (((i:Nat):Int)+1)=((i+1:Nat):Int):=by grind [gC]
     have hs2:l.take (j+1)=l.take j++[l[j]]:=dM hlt;rw[cB hx,aB,hφ _<|cH hlt,aB,w1]
     cases hp:p l[j]with
     |true=>
      refine⟨.nx (s,((i:Nat):Int),((j+1:Nat):Int)),by rfl,⟨i,j+1,rfl,rfl,by omega,by omega,hlen,?_,λm hm=>hd m (by omega)⟩,?_⟩
      ·grind
      grind
     |false=>
      refine⟨.nx (s.set i l[j],((i+1:Nat):Int),((j+1:Nat):Int)),by rw[ka,aP,nu _ _ (by omega),aB,cK,w2,aB],⟨i+1,j+1,rfl,rfl,by omega,by omega,by simp[hlen],?_,λm hm=>?_⟩,?_⟩
      ·rw[hs2,sX,<-ht];have:(s.set i l[j]).take (i+1)=s.take i++[l[j]]:=by
        rw[dM (by simp;omega),List.take_set_of_le<|cJ _];simp
       rw[this];simp[hp]
      ·rw[lU,aH (by omega)];exact hd m (by omega)
      ·simp only[cK];omega
    ·rw[cA (by rw[hlen];omega),aR];have hje:j=l.length:=by omega
     subst hje;rw[eD]at ht
     exact⟨.br (s,((i:Nat):Int),((l.length:Nat):Int)),rfl,i,rfl,by omega,hlen,ht⟩)
   N (l,(k:Int),((k+1:Nat):Int)) ⟨k,k+1,rfl,rfl,by omega,by omega,rfl,by rw[hst,sX,hpre];simp[h3],λ_ _=>rfl⟩ (by simp only[cK];omega)
  rw[a1,aB]
  cases o with
  |rt r=>exact r.elim
  |go s=>
   obtain⟨i,e1,hi,hlen,ht⟩:=a2;obtain⟨s,a,b⟩:=s;dsimp only at e1 hlen ht;subst e1;simp only[Fo.cs];rw[r5 _ _ (by omega),aB,cK,tv _ _ (by simp;omega),aB,List.take_append_of_le_length (by simp;omega),List.take_take,Nat.min_self,ht]
end
section
variable {κ ν:Type}[DecidableEq κ]
theorem md(m:Z (κ×ν))(k k':κ)(x z:ν):fU (tj m k x) k' z=if k'=k then x else fU m k' z:=by
 induction m with
 |nil=>grind [tj,fU]
 |cons p m ih=>
  grind [tj,fU,cA,bS]
theorem pO(m:Z (κ×ν))(k k':κ)(x:ν):mC (tj m k x) k'=(decide (k'=k)||mC m k'):=by
 induction m with
 |nil=>rfl
 |cons p m ih=>
  unfold tj
  grind [mC,cA,decide]
end
section
variable {N:Nat}
theorem FP(l:Z Int)(a b:Nat)(h:a+b<l.length):Ll l (a:Int) (b:Int)=some l[a+b]:=by
 unfold Ll;rw[aF (by omega),show(a:Int)+(b:Int)=((a+b:Nat):Int)by omega,nu _ _ h]
theorem kC.OS{l:Z Int}{a:Int}(h:kC l)(hl:∀c∈l,c<a):kC (l++[a]):=by
 grind [kC]
theorem kC.last{l:Z Int}{a:Int}(h:kC l)(hl:l.getLast? =some a):∀c∈l,c<=a:=by
 intro c hc;have hs:=vk hl;rw[hs]at h hc
 rcases dJ.1 hc with h1|h1
 ·have:=(List.pairwise_append.1 h).2.2 c h1 a (by simp);omega
 grind
theorem IA{l:Z Int}(hs:l.Pairwise (λx y=>x<=y))(hl:l.length<=4611686018427387000)(hN:l.length<N):
  Ok (ji N l) (λm=>kC m/\∀c,c∈m↔c∈l):=by
 unfold ji;refine Xn (λh2=>IS ⟨?_,λc=>Iff.rfl⟩)<|λh2=>?_
 ·have h2:=of_decide_eq_true h2
  match l,h2 with
  | [],_=>exact ky
  | [a],_=>exact List.pairwise_singleton _ _
  |a::b::l,h2=>grind
 ·have h2:=of_decide_eq_false h2;have le:∀(i j:Nat)(x y:Int),i<j->l[i]? =some x->l[j]? =some y->x<=y:=λi j x y hij hx hy=>by
   grind [ou,bR]
  refine WO (X2 (Go:=λ_=>kC l) (Rt:=λm=>kC m/\∀c,c∈m↔c∈l) (λs=>∃k:Nat,s=(k:Int)/\1<=k/\k<=l.length/\kC (l.take k)) (λs=>l.length - s.toNat) ?_ ⟨1,rfl,cJ _,by omega,?_⟩ (by simp;omega)) ?_
  ·rintro s⟨k,rfl,hk1,hkl,hinc⟩;refine Xn (λh=>?_)<|λh=>Xd ?_
   ·have hk:k<l.length:=by grind
    refine XN hk ?_;rw[iL hk1 (by omega)];refine XN (by omega) ?_;refine Xn (λhe=>?_)<|λhe=>?_
    ·have he:l[k]=l[k - 1]:=by grind
     refine IT (r5 l k hkl) ?_
     refine WO (X2 (Go:=λs=>∃i:Nat,s.2.1=((i:Nat):Int)/\i<=l.length/\s.1.length=l.length/\kC (s.1.take i)/\∀c,c∈s.1.take i↔c∈l) (Rt:=λ_=>True)
      (λs=>∃i j:Nat,s.2.1=((i:Nat):Int)/\s.2.2=((j:Nat):Int)/\1<=j/\k+j<=l.length/\i<=k+j - 1/\s.1.length=l.length/\kC (s.1.take i)/\(s.1.take i).getLast? =l[k+j - 1]? /\
       (∀c,c∈s.1.take i↔c∈l.take (k+j))/\∀m,k+j - 1<=m->s.1[m]? =l[m]?) (λs=>l.length - s.2.2.toNat) ?_ ?_ (by simp;omega)) ?_
     ·rintro⟨u,a,b⟩⟨i,j,e1,e2,hj,hjl,hij,hlen,hi,hlast,hmem,hrest⟩;dsimp only at e1 e2 hlen hi hlast hmem hrest ⊢;subst e1;subst e2;rw[cK];refine Xn (λh=>?_)<|λh=>Xd ?_
      ·have hlt:k+j<l.length:=by have:=of_decide_eq_true h;omega
       have hx:u[k+j]'(by omega)=l[k+j]:=by have:=hrest (k+j) (by omega);rw[aM (by omega),aM hlt]at this;injection this
       have hy:u[k+(j - 1)]'(by omega)=l[k+(j - 1)]:=by have:=hrest (k+(j - 1)) (by omega);rw[aM (by omega),aM (by omega)]at this;injection this
       refine IT (FP u k j (by omega)) ?_;rw[iL hj (by omega)];refine IT (FP u k (j - 1) (by omega)) ?_;rw[hx,hy];have hts:l.take (k+j+1)=l.take (k+j)++[l[k+j]]:=dM hlt;have hlast':(u.take i).getLast? =some l[k+(j - 1)]:=by rw[hlast,show k+j - 1=k+(j - 1)by omega,aM (by omega)]
       have hxy:l[k+(j - 1)]<=l[k+j]:=le (k+(j - 1)) (k+j) _ _ (by omega) (aM _)<|aM _
       refine WO (P:=λs'=>s'.1.length=l.length/\∃i':Nat,s'.2=(i':Int)/\i'<=k+j/\kC (s'.1.take i')/\(s'.1.take i').getLast? =l[k+j]? /\(∀c,c∈s'.1.take i'↔c∈l.take (k+j+1))/\∀m,k+j<=m->s'.1[m]? =l[m]?) ?_ ?_
       ·refine Xn (λhne=>?_)<|λhne=>IS ?_
        ·have hne:l[k+j]≠l[k+(j - 1)]:=by simpa using hne
         refine IT (FP u k j (by omega)) ?_;rw[hx];refine XN (by omega)<|IS ⟨by simp[hlen],i+1,?_,by omega,?_⟩
         ·rw[bF (by omega)]
         ·dsimp only;rw[cK];have ht:(u.set i l[k+j]).take (i+1)=u.take i++[l[k+j]]:=by
           rw[dM (by simp;omega),List.take_set_of_le<|cJ _];simp
          rw[ht];refine⟨hi.OS λc hc=>?_,by simp[aM hlt],λc=>?_,λm hm=>?_⟩
          ·have:=hi.last hlast' c hc;omega
          ·rw[hts,dJ,dJ,hmem]
          ·rw[lU,aH (by omega)];exact hrest m (by omega)
        ·have he:l[k+j]=l[k+(j - 1)]:=by simpa using hne
         refine⟨hlen,i,rfl,by omega,hi,?_,λc=>?_,λm hm=>hrest m (by omega)⟩
         ·dsimp only;rw[hlast',aM hlt,he]
         ·rw[hts,dJ,<-hmem];constructor
          ·exact .inl
          ·rintro(h|h)
           ·exact h
           ·simp at h;subst h;rw[he];exact List.mem_of_getLast? hlast'
       ·rintro⟨v,a⟩⟨g1,i',g2,g3,g4,g5,g6,g7⟩;dsimp only at g1 g2 g4 g5 g6 g7 ⊢;refine W8 ⟨⟨i',j+1,g2,?_,by omega,by omega,by omega,g1,g4,?_,g6,λm hm=>g7 m (by omega)⟩,?_⟩
        ·rw[bF (by omega)]
        ·rw[show k+(j+1) - 1=k+j by omega];exact g5
        ·rw[bF (by omega)];simp only[cK];omega
      ·have hge:k+j=l.length:=by have:=of_decide_eq_false h;omega
       refine⟨i,rfl,by omega,hlen,hi,λc=>?_⟩;rw[hmem,hge,eD]
     ·refine⟨k,1,rfl,rfl,cJ _,by omega,by omega,rfl,hinc,?_,λc=>?_,λm _=>rfl⟩
      ·dsimp only;rw[show k+1 - 1=k by omega,aM hk,he,List.getLast?_eq_getElem?,dE,Nat.min_eq_left hkl,List.getElem?_take_of_lt (by omega),aM (by omega)]
      ·dsimp only;rw[dM hk,dJ];constructor
       ·exact .inl
       ·rintro(h|h)
        ·exact h
        ·simp at h;subst h;rw[he];refine gh (i:=k - 1) ?_;rw[List.getElem?_take_of_lt (by omega),aM (by omega)]
     ·rintro o ho;refine Xf ho ?_<|λr=>r.elim
      rintro⟨u,a,b⟩⟨i,e1,hi,hlen,hinc',hmem⟩;dsimp only at e1 hlen hinc' hmem ⊢;subst e1;refine IT (r5 u i (by omega)) ?_;rw[cK];refine IT (tv _ i (by simp;omega))<|XR ?_
      rw[List.take_append_of_le_length (by simp;omega),List.take_take,Nat.min_self];exact⟨hinc',hmem⟩
    ·have he:l[k]≠l[k - 1]:=by simpa using he
     refine W8 ⟨⟨k+1,by rw[bF (by omega)],by omega,by omega,?_⟩,by rw[bF (by omega)];simp only[cK];omega⟩;rw[dM hk];refine hinc.OS λc hc=>?_;have hlast:(l.take k).getLast? =some l[k - 1]:=by
      rw[List.getLast?_eq_getElem?,dE,Nat.min_eq_left hkl,List.getElem?_take_of_lt (by omega),aM (by omega)]
     have h3:=hinc.last hlast c hc;have h4:=le (k - 1) k _ _ (by omega) (aM (by omega:k - 1<l.length))<|aM hk
     omega
   ·have hge:k=l.length:=by have:=of_decide_eq_false h;omega
    subst hge;rw[eD]at hinc;exact hinc
  ·match l,h2 with
   | [],h2=>simp at h2
   |a::l,_=>exact List.pairwise_singleton _ _
  ·rintro o ho;exact Xf ho (λs h=>IS ⟨h,λc=>Iff.rfl⟩)<|λr h=>IS h
def xh(l:Z aG):Z Int:=l.flatMap λr=>[r.X0,r.X1]
def kB(l:Z aG):Z Int:=l.flatMap λr=>[r.Y0,r.Y1]
theorem xk{l:Z aG}{c:Int}:c∈xh l↔∃r∈l,c=r.X0\/c=r.X1:=by simp[xh,List.mem_flatMap]
theorem pf{l:Z aG}{c:Int}:c∈kB l↔∃r∈l,c=r.Y0\/c=r.Y1:=by simp[kB,List.mem_flatMap]
theorem vl(l:Z aG):(xh l).length=2*l.length:=by
 induction l with
 |nil=>rfl
 |cons r l ih=>grind [xh]
theorem nQ(l:Z aG):(kB l).length=2*l.length:=by
 induction l with
 |nil=>rfl
 |cons r l ih=>grind [kB]
def BX(X Y:Z Int)(s:Z Bd):Prop:=∀b∈s,b.y0∈Y/\b.y1∈Y/\∀c∈b.xs,c∈X
theorem BX.push{X Y:Z Int}{s:Z Bd}{b:Bd}(h:BX X Y s)(h0:b.y0∈Y)(h1:b.y1∈Y)(h2:∀c∈b.xs,c∈X):BX X Y (kU s b):=by
 intro c hc;unfold kU at hc;split at hc
 ·exact h c hc
 ·split at hc
  ·rename_i d hd;have hdm:d∈s:=List.mem_of_getLast? hd;split at hc
   ·rcases dJ.1 hc with hc|hc
    ·exact h c<|List.dropLast_subset _ hc
    ·simp at hc;subst hc;exact⟨(h d hdm).1,h1,(h d hdm).2.2⟩
   ·rcases dJ.1 hc with hc|hc
    ·exact h c hc
    grind
  grind
theorem kC.nodup{l:Z Int}(h:kC l):l.Nodup:=List.Pairwise.imp (λh=>by omega) h
theorem BX.row{X Y:Z Int}{s:Z Bd}(h:BX X Y s)(hc:fY s){b:Bd}(hb:b∈s):b.xs.length<=X.length:=fL (hc.each b hb).2.2.1.nodup (h b hb).2.2
theorem BX.len{X Y:Z Int}{s:Z Bd}(h:BX X Y s)(hc:fY s):s.length<=Y.length:=by
 have hn:(s.map Bd.y0).Nodup:=by
  unfold List.Nodup;rw[List.pairwise_map];refine List.Pairwise.imp_of_mem (λ{a b}ha hb hab=>?_) hc.ord;have:=(hc.each a ha).1;omega
 have:=fL hn (m:=Y) (λx hx=>by
  obtain⟨b,hb,rfl⟩:=dN.1 hx
  exact(h b hb).1)
 grind
theorem BX.mono{X Y X' Y':Z Int}{s:Z Bd}(h:BX X Y s)(hx:∀c∈X,c∈X')(hy:∀c∈Y,c∈Y'):BX X' Y' s:=λb hb=>⟨hy _ (h b hb).1,hy _ (h b hb).2.1,λc hc=>hx c<|(h b hb).2.2 c hc⟩
theorem Nr(s:Z Bd)(b:Bd):(kU s b).length<=s.length+1:=by
 grind [kU,vk]
theorem kC.lt{l:Z Int}(h:kC l){i j:Nat}{x y:Int}(hij:i<j)(hx:l[i]? =some x)(hy:l[j]? =some y):x<y:=by
 have:=ou.1 h i j (bR.1 hx).1 (bR.1 hy).1 hij
 grind
theorem kC.next{l:Z Int}(h:kC l){k:Nat}{x y c:Int}(hx:l[k]? =some x)(hy:l[k+1]? =some y)(hc:c∈l)(hxc:x<c):y<=c:=by
 obtain⟨j,hj⟩:=eE hc
 rcases Nat.lt_trichotomy j (k+1)with h1|h1|h1
 ·exfalso
  by_cases e:j=k
  ·grind
  ·have:=h.lt (show j<k by omega) hj hx;omega
 ·grind
 ·have:=h.lt h1 hy hj;omega
theorem BN{l:Z aG}{φ:aG->aT Bool}(p:aG->Bool)(hφ:∀x∈l,φ x=some (p x))(hl:l.length<=4611686018427387000)(hN:l.length<N):jU N l φ=some (l.filter<|λx=> !p x):=
 OR (z:=(⟨0,0,0,0⟩:aG)) p hφ hl hN
theorem G4{l:Z aG}(hl:l.length<=268435456):kO N l=some l:=by
 grind [kO,j4,aB]
structure UK (l m:Z aG) (ys:Z Int) (k:Nat) (out:Z aA) (now:Z aG) (nx:Nat):Prop where
 can:fY (out.map cR)
 top:∀c∈out,∀y,ys[k]? =some y->c.Y1<=y
 cover:∀x y,yW (out.map cR) x y=(vW l x y&&decide (∀a,ys[k]? =some a->y<a))
 FQ:BX (xh l) (kB l) (out.map cR)
 WD:∀r∈now,r∈m.take nx
 WE:∀r∈m.take nx,∀y,ys[k]? =some y->y<r.Y1->r∈now
 len:now.length<=nx
 Wc:nx<=m.length
 rest:∀(j:Nat)r y,nx<=j->m[j]? =some r->ys[k]? =some y->y<=r.Y0
 low:∀r∈now,∀y,ys[k]? =some y->r.Y0<=y
theorem Qr{l m:Z aG}(h:∀r,r∈l↔r∈m)(x y:Int):vW l x y=vW m x y:=by
 grind [kV]
structure vm (l:Z aG) (s:Z aA):Prop where
 can:fY (s.map cR)
 cover:∀x y,yW (s.map cR) x y=vW l x y
 FQ:BX (xh l) (kB l) (s.map cR)
theorem sP{l:Z aG}(hl:l.length<=134217728)(hok:∀r∈l,GK r)(hN:4294967296<=N):Ok (jq N l) (vm l):=by
 unfold jq;refine IT (G4 (by omega)) ?_
 obtain⟨m,h1,h2,h3⟩:=FF (φ:=lI N) (l:=l) (λa b=>a.Y0 - b.Y0) (λa ha b hb=>by
  unfold lI;rw[FN (hok a ha).s3 (hok b hb).s3]) (λa _=>by omega) (λa _ b _ c _ h1 h2=>by omega) (λa _ b _ c _ h1 h2=>by omega) (by omega)
 refine IT h1 ?_;have hml:m.length=l.length:=h2.length_eq;have hmem:∀r,r∈m↔r∈l:=λr=>h2.mem_iff;refine WO (XM (λk s=>s=kB (m.take k)) (by omega) rfl<|λk s hk e=>?_) ?_
 ·grind [XN,XC,IS,nQ,dM,kB]
 rintro s rfl;rw[eD];have hgs:y6 (kB m)=some ((kB m).mergeSort<|λx y=>decide<|x<=y):=by grind [y6,nQ]
 refine IT hgs ?_;have hsp:((kB m).mergeSort<|λx y=>decide<|x<=y).Pairwise (λx y=>x<=y):=by
  grind [List.pairwise_mergeSort,decide,kB,List.Pairwise.imp]
 have hsm:∀c,c∈(kB m).mergeSort (λx y=>decide<|x<=y)↔c∈kB m:=λc=>List.mem_mergeSort;have hsl:((kB m).mergeSort<|λx y=>decide<|x<=y).length=2*m.length:=by rw[List.length_mergeSort,nQ]
 generalize (kB m).mergeSort (λx y=>decide<|x<=y)=sy at hsp hsm hsl;refine WO (IA (N:=N) hsp (by omega) (by omega)) ?_;rintro ys⟨hy,hym⟩;have hyl:ys.length<=2*m.length:=by
  have:=fL hy.nodup (m:=sy)<|λc hc=>(hym c).1 hc
  omega
 have y0m:∀r∈m,r.Y0∈ys:=λr hr=>(hym _).2<|(hsm _).2<|pf.2 ⟨r,hr, .inl rfl⟩
 have y1m:∀r∈m,r.Y1∈ys:=λr hr=>(hym _).2<|(hsm _).2<|pf.2 ⟨r,hr, .inr rfl⟩
 have yml:∀c∈ys,c∈kB l:=λc hc=>by
  grind [pf]
 refine WO (X2 (Go:=λs=>vm l s.1) (Rt:=λ_=>True) (λs=>∃k nx:Nat,s.2.2.2=((k:Nat):Int)/\s.2.2.1=(nx:Int)/\(k<ys.length\/k=0)/\UK l m ys k s.1 s.2.1 nx) (λs=>ys.length - s.2.2.2.toNat) ?_ ?_ (by simp;omega)) ?_
 ·rintro⟨out,now,a,b⟩⟨k,nx,e1,e2,hk,I⟩;dsimp only at e1 e2 I ⊢;subst e1;subst e2;rw[bF (by omega)];refine Xn (λh=>?_)<|λh=>Xd ?_
  ·have hk1:k+1<ys.length:=by grind
   have hyk:ys[k]? =some ys[k]:=aM _;have hyk1:ys[k+1]? =some ys[k+1]:=aM hk1;have hlt:=hy.lt (Nat.lt_succ_self k) hyk hyk1;have hcov:=I.cover;simp only[hyk,Option.some.injEq,forall_eq']at hcov;refine IT (BN (λr=>decide<|r.Y1<=ys[k]) (λr _=>by grind [rI,nu,aB]) (by have:=I.len;have:=I.Wc;omega) (by have:=I.len;have:=I.Wc;omega)) ?_;have hfl:=ln (λr:aG=> !decide (r.Y1<=ys[k])) now;have hIl:=I.len;have hIn:=I.Wc
   refine WO (X2 (Go:=λs=>∃nx':Nat,s.2=((nx':Nat):Int)/\nx'<=m.length/\s.1.length<=nx'/\(∀r∈s.1,r∈m.take nx')/\(∀r∈m.take nx',ys[k]<r.Y1->r∈s.1)/\(∀r∈s.1,r.Y0<=ys[k]/\ys[k]<r.Y1)/\(∀(j:Nat)r,nx'<=j->m[j]? =some r->ys[k]<r.Y0)) (Rt:=λ_=>True)
    (λs=>∃nx':Nat,s.2=((nx':Nat):Int)/\nx<=nx'/\nx'<=m.length/\s.1.length<=nx'/\(∀r∈s.1,r∈m.take nx')/\(∀r∈m.take nx',ys[k]<r.Y1->r∈s.1)/\(∀r∈s.1,r.Y0<=ys[k]/\ys[k]<r.Y1)) (λs=>m.length - s.2.toNat) ?_ ?_ (by simp;omega)) ?_
   ·rintro⟨nw,b⟩⟨nx',e1,g0,g1,g2,g3,g4,g5⟩;dsimp only at e1 g2 g3 g4 g5 ⊢;subst e1;refine WO (P:=λb=>b=true↔∃h:nx'<m.length,m[nx'].Y0<=ys[k]) ?_ ?_
    ·refine Xn (λh=>?_)<|λh=>IS ?_
     ·have hlt:nx'<m.length:=by have:=of_decide_eq_true h;omega
      refine XN hlt<|XN (by omega)<|IS ?_
      rw[dF];exact⟨λh=>⟨hlt,h⟩,λ⟨_,h⟩=>h⟩
     ·have:=of_decide_eq_false h;constructor
      ·intro h;cases h
      ·rintro⟨h,_⟩;omega
    ·intro bb hbb;refine Xn (λh=>?_)<|λh=>Xd ?_
     ·obtain⟨hlt,h0⟩:=hbb.1 h;have hts:m.take (nx'+1)=m.take nx'++[m[nx']]:=dM hlt;refine XN hlt<|XC (by simp;omega)<|W8 ⟨⟨nx'+1,by rw[bF (by omega)],by omega,by omega,by simp;omega,λr hr=>?_,λr hr hr2=>?_,λr hr=>?_⟩,by rw[bF (by omega)];simp only[cK];omega⟩
      ·rw[hts]
       rcases dJ.1 hr with h|h
       ·exact List.mem_append_left _<|g3 r h
       ·exact List.mem_append_right _ h
      ·rw[hts]at hr
       rcases dJ.1 hr with h|h
       ·exact List.mem_append_left _<|g4 r h hr2
       ·exact List.mem_append_right _ h
      ·rcases dJ.1 hr with h|h
       ·exact g5 r h
       ·simp at h;subst h;refine⟨h0,?_⟩;have:=(hok m[nx']<|(hmem _).1<|cH hlt).y;have:=I.rest nx' _ ys[k] g0 (aM hlt) hyk;omega
     ·refine⟨nx',rfl,g1,g2,g3,g4,g5,λj r hj hr=>?_⟩;have hjl:=(bR.1 hr).1;have hlt:nx'<m.length:=by omega
      have h0:¬m[nx'].Y0<=ys[k]:=λh0=>by rw[hbb.2 ⟨hlt,h0⟩]at h;cases h
      by_cases e:nx'=j
      ·subst e;rw[aM hlt]at hr;injection hr with hr;subst hr;omega
      ·have:=ou.1 h3 nx' j hlt hjl (by omega);have hr':=(bR.1 hr).2;rw[hr']at this;omega
   ·refine⟨nx,rfl,cJ _,hIn,by dsimp only;omega,λr hr=>I.WD r (ll.1 hr).1,λr hr h=>ll.2 ⟨I.WE r hr ys[k] hyk h,by simpa using h⟩,λr hr=>?_⟩;have hr:=ll.1 hr;have hr2:ys[k]<r.Y1:=by simpa using hr.2
    exact⟨I.low r hr.1 ys[k] hyk,hr2⟩
   ·rintro o ho;refine Xf ho ?_<|λr=>r.elim
    rintro⟨nw,b⟩⟨nx',e1,g1,g2,g3,g4,g5,g6⟩;dsimp only at e1 g2 g3 g4 g5 ⊢;subst e1;refine XN (by omega)<|XN hk1 ?_
    have hnm:∀r∈nw,r∈l:=λr hr=>(hmem r).1<|List.take_subset _ _<|g3 r hr
    obtain⟨row,nw',s1,s2,s3,s4,s5,s6,s7⟩:=Ix (N:=N) (l:=nw) (by omega)<|λr hr=>hok r<|hnm r hr
    refine IT s1 ?_;have hlimx:∀c∈row,c∈xh l:=λc hc=>by
     obtain⟨r,hr,h⟩:=s7 c hc;exact xk.2 ⟨r,hnm r hr,h⟩
    have hol:out.length<=2*l.length:=by have:=I.FQ.len I.can;rw[nQ,dQ]at this;exact this
    have hox:∀c∈out,c.Xs.length<=2*l.length:=λc hc=>by
     have:=I.FQ.row I.can (b:=cR c)<|dN.2 ⟨c,hc,rfl⟩
     rw[vl]at this;exact this
    obtain⟨out',p1,p2⟩:=MG (N:=N) (s:=out) (b:=⟨ys[k],ys[k+1],row⟩) (by omega) (λc hc=>by have:=hox c hc;omega);refine IT p1 ?_;have htop:∀c∈out.map cR,c.y1<=(cR ⟨ys[k],ys[k+1],row⟩).y0:=λc hc=>by
     obtain⟨d,hd,rfl⟩:=dN.1 hc;exact I.top d hd ys[k] hyk
    have hcan:=Af I.can htop s3 s4;refine W8 ⟨⟨k+1,nx',rfl,rfl, .inl hk1,⟨by dsimp only;rw[p2];exact hcan,λc hc y hy1=>?_,λx y=>?_,?_,λr hr=>g3 r<|s2.subset hr,λr hr y hy1 h=>?_,by rw[s2.length_eq];exact g2,g1,λj r y hj hr hy1=>?_,λr hr y hy1=>?_⟩⟩,by simp only[cK];omega⟩
    ·rw[hyk1]at hy1;injection hy1 with hy1;subst hy1
     have hm':cR c∈kU (out.map cR) (cR ⟨ys[k],ys[k+1],row⟩):=by rw[<-p2];exact dN.2 ⟨c,hc,rfl⟩
     exact Ag htop (by show ys[k]<=ys[k+1];omega) _ hm'
    ·simp only[hyk1,Option.some.injEq,forall_eq'];unfold yW;rw[p2,Ae htop (λc hc=>(I.can.each c hc).1)<|λh=>absurd h (by show ¬ys[k+1]<=ys[k];omega)]
     by_cases hyy:ys[k]<=y/\y<ys[k+1]
     ·rw[aF (show(cR ⟨ys[k],ys[k+1],row⟩).y0<=y/\y<(cR ⟨ys[k],ys[k+1],row⟩).y1 from hyy),bS hyy.2,Bool.and_true];show sq row x=_;rw[s5,jd,FM,kV];constructor
      ·rintro⟨r,hr,h⟩;have hrm:=List.take_subset _ _<|g3 r hr
       have h5:=g5 r hr;have:=hy.next hyk hyk1 (y1m r hrm) h5.2;exact⟨r,hnm r hr,h,by omega,by omega⟩
      ·rintro⟨r,hr,h,h7,h8⟩;have hrm:=(hmem r).2 hr;have h9:r.Y0<=ys[k]:=by
        by_cases h10:r.Y0<=ys[k]
        ·exact h10
        ·have:=hy.next hyk hyk1 (y0m r hrm) (by omega);omega
       have h11:r∈m.take nx':=by
        obtain⟨j,hj⟩:=eE hrm
        by_cases h12:j<nx'
        ·exact gh (i:=j) (by rw[List.getElem?_take_of_lt h12];exact hj)
        ·have:=g6 j r (by omega) hj;omega
       exact⟨r,g4 r h11 (by omega),h⟩
     ·rw[aH (show ¬((cR ⟨ys[k],ys[k+1],row⟩).y0<=y/\y<(cR ⟨ys[k],ys[k+1],row⟩).y1)from hyy)];show yW (out.map cR) x y=_;rw[hcov]
      by_cases h1:y<ys[k]
      ·rw[bS h1,bS (show y<ys[k+1]by omega)]
      ·rw[cA h1,cA (show ¬y<ys[k+1]by omega)]
    ·show BX (xh l) (kB l) (out'.map cR);rw[p2];exact I.FQ.push (yml _<|cH _) (yml _<|cH _) hlimx
    ·rw[hyk1]at hy1;injection hy1 with hy1;subst hy1
     exact s2.symm.subset<|g4 r hr (by omega)
    ·rw[hyk1]at hy1;injection hy1 with hy1;subst hy1
     exact hy.next hyk hyk1 (y0m r<|gh hr)<|g6 j r hj hr
    ·rw[hyk1]at hy1;injection hy1 with hy1;subst hy1
     have:=(g5 r<|s2.subset hr).1;omega
  ·have hge:¬k+1<ys.length:=by have:=of_decide_eq_false h;omega
   refine⟨I.can,λx y=>?_,I.FQ⟩;rw[I.cover]
   by_cases hyn:ys= []
   ·have:vW l x y=false:=by
     rw[<-ot,kV];rintro⟨r,hr,_⟩;have:=y0m r<|(hmem r).2 hr
     rw[hyn]at this;cases this
    rw[this];rfl
   ·have hkl:k<ys.length:=by
     rcases hk with h|h
     ·exact h
     ·subst h;exact List.length_pos_iff.2 hyn
    rw[aM hkl];simp only[Option.some.injEq,forall_eq']
    cases hc:vW l x y with
    |false=>rfl
    |true=>
     obtain⟨r,hr,_,h7,h8⟩:=kV.1 hc;have:=y1m r<|(hmem r).2 hr
     obtain⟨j,hj⟩:=eE this;have hjl:=(bR.1 hj).1;have:r.Y1<=ys[k]:=by
      by_cases e:j=k
      ·subst e;rw[aM hkl]at hj;injection hj with hj;omega
      ·have:=hy.lt (show j<k by omega) hj<|aM hkl;omega
     rw[bS (show y<ys[k]by omega)];rfl
 ·refine⟨0,0,rfl,rfl, .inr rfl,?_⟩;show UK l m ys 0 [] [] 0;refine⟨fY.nil,λc hc=>(by cases hc),λx y=>?_,λb hb=>(by cases hb),λr hr=>(by cases hr),λr hr=>(by rw[List.take_zero]at hr;cases hr),cJ _,cP _,λj r y _ hr hy0=>?_,λr hr=>(by cases hr)⟩
  ·show false=_;symm;rw[Bool.and_eq_false_iff]
   cases hc:vW l x y with
   |false=>exact .inl rfl
   |true=>
    right;obtain⟨r,hr,_,h7,h8⟩:=kV.1 hc;have hr0:=y0m r<|(hmem r).2 hr
    have hpos:0<ys.length:=List.length_pos_of_mem hr0;rw[decide_eq_false_iff_not];intro h;have h:=h ys[0]<|aM hpos
    obtain⟨j,hj⟩:=eE hr0
    by_cases e:j=0
    ·subst e;rw[aM hpos]at hj;injection hj with hj;omega
    ·have:=hy.lt (show 0<j by omega) (aM hpos) hj;omega
  ·obtain⟨j',hj'⟩:=eE<|y0m r<|gh hr
   by_cases e:j'=0
   ·subst e;rw[hy0]at hj';injection hj' with hj';omega
   ·have:=hy.lt (show 0<j' by omega) hy0 hj';omega
 ·rintro o ho;refine Xf ho (λs h=>IS h)<|λr=>r.elim
end
section
variable {N:Nat}
def FR:Z Int->Z (Int×Int)
 |a::b::l=>(a,b)::FR l
 |_=>[]
theorem EV:∀(xs:Z Int),(FR xs).length=xs.length / 2
 | []=>rfl
 | [a]=>by simp[FR]
 |a::b::l=>by unfold FR;rw[eN,EV l];simp only[eN];omega
theorem CK:∀(xs:Z Int)(j:Nat)(h:2*j+1<xs.length),(FR xs)[j]? =some (xs[2*j],xs[2*j+1])
 | [],j,h=>by simp at h
 | [a],j,h=>by simp at h
 |a::b::l,0,h=>rfl
 |a::b::l,j+1,h=>by
  have:=CK l j (by grind);unfold FR;rw[List.getElem?_cons_succ,this];have e1:(a::b::l)[2*(j+1)]=l[2*j]'(by grind):=by simp[show 2*(j+1)=2*j+1+1 by omega]
  have e2:(a::b::l)[2*(j+1)+1]=l[2*j+1]'(by grind):=by simp[show 2*(j+1)+1=2*j+1+1+1 by omega]
  rw[e1,e2]
theorem FT:∀{xs:Z Int},xs.length % 2=0->dU (FR xs)=xs
 | [],_=>rfl
 | [a],h=>by simp at h
 |a::b::l,h=>by unfold FR;rw[k6,FT (by grind)]
theorem Qs{xs:Z Int}(h:kC xs)(he:xs.length % 2=0)(x:Int):sq xs x=kA (FR xs) x:=by
 grind [xg,FR,FT]
theorem IB{xs:Z Int}:∀p∈FR xs,p.1∈xs/\p.2∈xs:=by
 grind [eE,bR,EV,CK,cH]
theorem IC{xs:Z Int}(h:kC xs):∀p∈FR xs,p.1<p.2:=by
 intro p hp;obtain⟨j,hj⟩:=eE hp;have hjl:=(bR.1 hj).1;rw[EV]at hjl;rw[CK xs j (by omega)]at hj;injection hj with hj;subst hj
 exact h.lt (show 2*j<2*j+1 by omega) (aM _)<|aM _
def pg(b:aA):Z aG:=(FR b.Xs).map λp=>⟨p.1,b.Y0,p.2,b.Y1⟩
def bA(s:Z aA):Z aG:=s.flatMap pg
theorem ph(b:aA)(s:Z aA):bA (b::s)=pg b++bA s:=rfl
theorem sQ(b:aA):(pg b).length=b.Xs.length / 2:=by simp[pg,dQ,EV]
theorem qy(s t:Z aA):bA (s++t)=bA s++bA t:=List.flatMap_append
theorem Dw(s:Z aA)(k:Nat):(bA<|s.take k).length<=(bA s).length:=by
 grind [List.take_append_drop,qy,eC]
theorem FU{s:Z aA}{A B:Nat}(h1:s.length<=A)(h2:∀b∈s,b.Xs.length<=B):(bA s).length<=A*B:=by
 induction s generalizing A with
 |nil=>simp[bA]
 |cons b s ih=>
  rw[ph,eC,sQ];simp at h1;obtain⟨A',rfl⟩:∃A',A=A'+1:=⟨A - 1,by omega⟩
  grind
theorem FV{s:Z aA}(he:∀b∈s,b.Xs.length % 2=0)(h1:s.length<=1099511627776)(h2:∀b∈s,b.Xs.length<=1099511627776/\b.Xs.length<N)(h3:(bA s).length<=1099511627776):kY N s=some (bA s):=by
 refine XL ?_;unfold kY;refine WO (XM (λk t=>t=bA (s.take k)) (by omega) rfl<|λk t hk e=>?_)<|λt e=>IS (by rw[e,eD])
 subst e;refine XN hk ?_;have hm:=cH hk;generalize hb:s[k]=b at hm ⊢;have heb:=he b hm;have hbl:=h2 b hm;have hts:bA (s.take<|k+1)=bA (s.take k)++pg b:=by
  grind [dM,qy,bA]
 have hle:=Dw s<|k+1
 rw[hts,eC,sQ]at hle;refine WO (X2 (Go:=λs'=>s'.1=bA (s.take<|k+1)) (Rt:=λ_=>True) (λs'=>∃j:Nat,s'.2=((2*j:Nat):Int)/\2*j<=b.Xs.length/\s'.1=bA (s.take k)++(pg b).take j) (λs'=>b.Xs.length - s'.2.toNat) ?_ ⟨0,rfl,by omega,by simp⟩ (by simp;omega)) ?_
 ·rintro⟨acc,i⟩⟨j,e1,hj,e2⟩;dsimp only at e1 e2 ⊢;subst e1;subst e2;refine Xn (λh=>?_)<|λh=>Xd ?_
  ·have hlt:2*j+1<b.Xs.length:=by grind
   refine XN (by omega) ?_;rw[bF (by omega)];refine XN hlt<|XC ?_<|W8 ⟨⟨j+1,?_,by omega,?_⟩,?_⟩
   ·grind
   ·rw[HF (by omega)];congr 1
   ·rw[kN];congr 1;have hg:(pg b)[j]? =some ⟨b.Xs[2*j],b.Y0,b.Xs[2*j+1],b.Y1⟩:=by
     grind [pg,CK]
    have hjl:=(bR.1 hg).1;rw[dM hjl,(bR.1 hg).2]
   ·rw[HF (by omega)];simp only[cK];omega
  ·have hge:2*j=b.Xs.length:=by have:=of_decide_eq_false h;omega
   show bA (s.take k)++(pg b).take j=_;rw[hts,nc (l:=pg b) (by rw[sQ];omega)]
 ·rintro o ho;exact Xf ho (λs' h=>IS h)<|λr=>r.elim
theorem Qt{s:Z aA}(h1:s.length<=1099511627776)(h2:∀b∈s,b.Xs.length<=1099511627776)(h3:(bA s).length<=1099511627776):oQ N s=some (((bA s).length:Nat):Int):=by
 refine XL ?_;unfold oQ;refine WO (XM (λk t=>t=(((bA<|s.take k).length:Nat):Int)) (by omega) rfl<|λk t hk e=>?_)<|λt e=>IS (by rw[e,eD])
 subst e;refine XN hk<|IS ?_
 have hm:=cH hk;have hbl:=h2 _ hm;have hts:bA (s.take<|k+1)=bA (s.take k)++pg s[k]:=by
  grind [dM,qy,bA]
 grind [hle,Dw,eC,sQ,Int.tdiv,Int.ofNat_tdiv,Kg,wrap_add]
theorem LI(l m:Z aG)(x y:Int):vW (l++m) x y=(vW l x y||vW m x y):=List.any_append
theorem OT{b:aA}(h:kC b.Xs)(he:b.Xs.length % 2=0)(x y:Int):vW (pg b) x y=(sq b.Xs x&&(decide (b.Y0<=y)&&decide (y<b.Y1))):=by
 rw[Qs h he,jd,kV,dB,xf,dB,dF,dF];unfold pg;constructor
 ·grind
 ·rintro⟨⟨p,hp,h1⟩,h2⟩;exact⟨_,dN.2 ⟨p,hp,rfl⟩,h1,h2⟩
theorem ru:∀{s:Z aA},fY (s.map cR)->∀x y,vW (bA s) x y=yW (s.map cR) x y
 | [],_,x,y=>rfl
 |b::s,h,x,y=>by
  rw[ph,LI,ru h.tail x y];have hb:=h.each (cR b) (by simp);rw[OT hb.2.2.1 hb.2.2.2];unfold yW;rw[eW,o9]
  by_cases hy:b.Y0<=y/\y<b.Y1
  ·rw[aF (show(cR b).y0<=y/\y<(cR b).y1 from hy),nA<|λc hc=> .inl (by have:=h.FK c hc;grind [cR]),bS hy.1,bS hy.2];show(sq b.Xs x&&true||false)=sq b.Xs x;simp
  ·rw[aH (show ¬((cR b).y0<=y/\y<(cR b).y1)from hy)];have:(decide (b.Y0<=y)&&decide (y<b.Y1))=false:=by rw[Bool.and_eq_false_iff,decide_eq_false_iff_not,decide_eq_false_iff_not];omega
   rw[this];simp
theorem sR{s:Z aA}{r:aG}(h:r∈bA s):∃b∈s,∃p∈FR b.Xs,r= ⟨p.1,b.Y0,p.2,b.Y1⟩:=by
 unfold bA pg at h
 grind
theorem FW{s:Z aA}{X Y:Z Int}(h:fY (s.map cR))(hl:BX X Y (s.map cR))(hx:∀c∈X,small c)(hy:∀c∈Y,small c):∀r∈bA s,GK r/\(r.X0∈X/\r.X1∈X)/\r.Y0∈Y/\r.Y1∈Y:=by
 intro r hr;obtain⟨b,hb,p,hp,rfl⟩:=sR hr;have hm:cR b∈s.map cR:=dN.2 ⟨b,hb,rfl⟩;have hc:=h.each _ hm;have hll:=hl _ hm;have h1:=IB p hp;have h2:=hll.2.2 p.1 h1.1;have h3:=hll.2.2 p.2 h1.2;exact⟨⟨IC hc.2.2.1 p hp,hc.1,hx _ h2,hx _ h3,hy _ hll.1,hy _ hll.2.1⟩,⟨h2,h3⟩,hll.1,hll.2.1⟩
theorem BO{l:Z Int}{x:Int}(h:∀c∈l,c<=x):sq l x=(l.length % 2==1):=by grind [sq,ME]
theorem Dx{l:Z Int}{a x:Int}(h:x<a):sq (l++[a]) x=sq l x:=by grind [sq,FG,sd,Iw]
def Ns(l:Z Int):Bool:=l.length % 2==1
theorem FX(l:Z Int)(a:Int):Ns (l++[a]) = !Ns l:=by
 unfold Ns
 grind
structure Kh (iU:Bool->Bool->Bool) (a b a' b' out:Z Int) (inA inB is:Bool) (pa pb:Z Int):Prop where
 ea:a=pa++a'
 eb:b=pb++b'
 oa:inA=Ns pa
 ob:inB=Ns pb
 oo:is=Ns out
 ok:is=iU inA inB
 low:∀c,(c∈pa\/c∈pb\/c∈out)->∀d,(d∈a'\/d∈b')->c<d
 inc:kC out
 UL:∀x,(∀d,(d∈a'\/d∈b')->x<d)->sq out x=iU (sq pa x) (sq pb x)
 mem:∀c∈out,c∈pa\/c∈pb
 len:out.length<=pa.length+pb.length
theorem Kh.step{iU:Bool->Bool->Bool}{a b a' b' out:Z Int}{inA inB is:Bool}{pa pb:Z Int}(I:Kh iU a b a' b' out inA inB is pa pb)(ha:kC a)(hb:kC b)(x:Int)(ta tb:Z Int)(wa wb:Bool)
  (h1:a'=(if wa then x::ta else ta)) (h2:b'=(if wb then x::tb else tb)) (hw:wa=true\/wb=true) (hx:∀d,(d∈ta\/d∈tb)->x<d):
  Kh iU a b ta tb (if iU (inA ^^ wa) (inB ^^ wb)=is then out else out++[x]) (inA ^^ wa) (inB ^^ wb) (iU (inA ^^ wa)<|inB ^^ wb) (if wa then pa++[x]else pa) (if wb then pb++[x]else pb):=by
 have hxm:x∈a'\/x∈b':=by
  grind
 have hsub:∀d,(d∈ta\/d∈tb)->d∈a'\/d∈b':=λd hd=>by
  grind
 have hlow:∀c,(c∈pa\/c∈pb\/c∈out)->c<x:=λc hc=>I.low c hc x hxm;have hpa:∀c∈(if wa then pa++[x]else pa),c∈pa\/(wa=true/\c=x):=λc hc=>by
  grind
 have hpb:∀c∈(if wb then pb++[x]else pb),c∈pb\/(wb=true/\c=x):=λc hc=>by
  grind
 have hout:∀c∈(if iU (inA ^^ wa) (inB ^^ wb)=is then out else out++[x]),c∈out\/c=x:=λc hc=>by
  grind
 have ooA:(inA ^^ wa)=Ns (if wa then pa++[x]else pa):=by
  rw[I.oa];grind [FX]
 have ooB:(inB ^^ wb)=Ns (if wb then pb++[x]else pb):=by
  rw[I.ob];grind [FX]
 have ooO:iU (inA ^^ wa) (inB ^^ wb)=Ns (if iU (inA ^^ wa) (inB ^^ wb)=is then out else out++[x]):=by
  split
  ·rename_i h;rw[h];exact I.oo
  ·rename_i h;rw[FX,<-I.oo]
   cases hk:iU (inA ^^ wa) (inB ^^ wb) <;> cases his:is <;> simp_all
 refine⟨?_,?_,ooA,ooB,ooO,rfl,?_,?_,?_,?_,?_⟩
 ·rw[I.ea,h1];grind
 ·rw[I.eb,h2];grind
 ·grind
 ·split
  ·exact I.inc
  ·exact I.inc.OS λc hc=>hlow c<|.inr<|.inr hc
 ·intro y hy
  by_cases hxy:y<x
  ·have e1:sq (if wa then pa++[x]else pa) y=sq pa y:=by grind [Dx]
   have e2:sq (if wb then pb++[x]else pb) y=sq pb y:=by grind [Dx]
   have e3:sq (if iU (inA ^^ wa) (inB ^^ wb)=is then out else out++[x]) y=sq out y:=by grind [Dx]
   rw[e1,e2,e3];refine I.UL y λd hd=>?_
   grind
  ·rw[BO (l:=if wa then pa++[x]else pa),BO (l:=if wb then pb++[x]else pb),BO]
   ·have e1:=ooA;have e2:=ooB;have e3:=ooO;unfold Ns at e1 e2 e3;rw[<-e1,<-e2,<-e3]
   ·intro c hc
    rcases hout c hc with h|rfl
    ·have:=hlow c<|.inr<|.inr h;omega
    ·omega
   ·intro c hc
    rcases hpb c hc with h|⟨_,rfl⟩
    ·have:=hlow c<|.inr<|.inl h;omega
    ·omega
   ·intro c hc
    rcases hpa c hc with h|⟨_,rfl⟩
    ·have:=hlow c<|.inl h;omega
    ·omega
 ·intro c hc;have m1:∀c,c∈pa->c∈(if wa then pa++[x]else pa):=λc h=>by split;exact List.mem_append_left _ h;exact h
  have m2:∀c,c∈pb->c∈(if wb then pb++[x]else pb):=λc h=>by split;exact List.mem_append_left _ h;exact h
  rcases hout c hc with h|rfl
  ·rcases I.mem c h with h|h
   ·exact .inl<|m1 c h
   ·exact .inr<|m2 c h
  ·rcases hw with h|h
   ·left;rw[aF h];simp
   ·right;rw[aF h];simp
 ·have:=I.len;have h3:(if wa then pa++[x]else pa).length+(if wb then pb++[x]else pb).length>=pa.length+pb.length+1:=by
   rcases hw with h|h
   ·subst h;cases wb <;> simp <;> omega
   ·subst h;cases wa <;> simp <;> omega
  split
  ·omega
  ·simp at h3 ⊢;omega
end
section
variable {N:Nat}
theorem lh(x:Int)(l:Z Int):idx (x::l) 0=some x:=rfl
theorem xl{α:Type}(x:α)(l:Z α):vB (x::l) 1 (((x::l).length:Nat):Int)=some l:=r5 (x::l) 1 (by simp)
theorem mx{α:Type}(x:α)(l:Z α):decide ((((x::l).length:Nat):Int)>0)=true:=bS (by simp)
theorem Ai{α:Type}(x:α)(l:Z α):((((x::l).length:Nat):Int)==0)=false:=by rfl
theorem LJ{a b:Z Int}(ha:kC a)(hb:kC b)(h:a≠[]\/b≠[]):∃x ta tb wa wb,a=(if wa then x::ta else ta)/\b=(if wb then x::tb else tb)/\(wa=true\/wb=true)/\(∀d,(d∈ta\/d∈tb)->x<d):=by
 match a,b,ha,hb,h with
 | [],[],_,_,h=>grind
 |x::ta,[],ha,_,_=>exact⟨x,ta,[],true,false,rfl,rfl, .inl rfl,λd hd=>by rcases hd with h|h;exact ha.head d h;cases h⟩
 | [],y::tb,_,hb,_=>exact⟨y,[],tb,false,true,rfl,rfl, .inr rfl,λd hd=>by rcases hd with h|h;cases h;exact hb.head d h⟩
 |x::ta,y::tb,ha,hb,_=>
  rcases Int.lt_trichotomy x y with h|h|h
  ·refine⟨x,ta,y::tb,true,false,rfl,rfl, .inl rfl,λd hd=>?_⟩
   rcases hd with h1|h1
   ·exact ha.head d h1
   ·rcases fp.1 h1 with rfl|h1
    ·exact h
    ·have:=hb.head d h1;omega
  ·subst h;exact⟨x,ta,tb,true,true,rfl,rfl, .inl rfl,λd hd=>by rcases hd with h|h;exact ha.head d h;exact hb.head d h⟩
  ·refine⟨y,x::ta,tb,false,true,rfl,rfl, .inr rfl,λd hd=>?_⟩
   rcases hd with h1|h1
   ·rcases fp.1 h1 with rfl|h1
    ·exact h
    ·have:=ha.head d h1;omega
   ·exact hb.head d h1
theorem Nt{φ:Bool->Bool->aT Bool}{iU:Bool->Bool->Bool}(hφ:∀p q,φ p q=some (iU p q))(hk:iU false false=false){a b:Z Int}(ha:kC a)(hb:kC b)(hae:a.length % 2=0)(hbe:b.length % 2=0)
  (rG:a.length<=1099511627776) (hbl:b.length<=1099511627776) (hN:a.length+b.length<N):
  Ok (uO N a b φ) (λm=>kC m/\m.length % 2=0/\(∀x,sq m x=iU (sq a x) (sq b x))/\∀c∈m,c∈a\/c∈b):=by
 unfold uO
 refine WO (X2 (Go:=λs=>kC s.2.2.1/\s.2.2.1.length % 2=0/\(∀x,sq s.2.2.1 x=iU (sq a x) (sq b x))/\∀c∈s.2.2.1,c∈a\/c∈b) (Rt:=λ_=>True)
  (λs=>∃pa pb,Kh iU a b s.1 s.2.1 s.2.2.1 s.2.2.2.1 s.2.2.2.2.1 s.2.2.2.2.2 pa pb) (λs=>s.1.length+s.2.1.length) ?_ ?_ hN) ?_
 ·rintro⟨a',b',out,inA,inB,is⟩⟨pa,pb,I⟩;dsimp only at I ⊢;have ha':kC a':=by have:=ha;rw[I.ea]at this;exact(List.pairwise_append.1 this).2.1
  have hb':kC b':=by have:=hb;rw[I.eb]at this;exact(List.pairwise_append.1 this).2.1
  have hle:pa.length+a'.length=a.length:=by rw[I.ea];simp
  have hlb:pb.length+b'.length=b.length:=by rw[I.eb];simp
  have hlo:=I.len
  by_cases hne:a'≠[]\/b'≠[]
  ·obtain⟨x,ta,tb,wa,wb,h1,h2,hw,hx⟩:=LJ ha' hb' hne;have J:=I.step ha hb x ta tb wa wb h1 h2 hw hx;have fin:∀(sa sb:Z Int×Bool),sa=(ta,inA ^^ wa)->sb=(tb,inB ^^ wb)->
     Ok ((φ sa.2 sb.2).bind λx220=>(bif x220 != is then((app 8 out ([x]:Z Int)).bind λx227=>some (x227,x220))else some (out,is)).bind λs224=>some<|Fl.nx (sa.1,sb.1,s224.1,sa.2,sb.2,s224.2))
      (PL (λs':Z Int×Z Int×Z Int×Bool×Bool×Bool=>(∃pa pb,Kh iU a b s'.1 s'.2.1 s'.2.2.1 s'.2.2.2.1 s'.2.2.2.2.1 s'.2.2.2.2.2 pa pb)/\s'.1.length+s'.2.1.length<a'.length+b'.length) (λs=>kC s.2.2.1/\s.2.2.1.length % 2=0/\(∀x,sq s.2.2.1 x=iU (sq a x) (sq b x))/\∀c∈s.2.2.1,c∈a\/c∈b) (λ_:Empty=>True)):=by
    rintro _ _ rfl rfl;refine IT (hφ _ _) ?_;have hlt:ta.length+tb.length<a'.length+b'.length:=by
     rw[h1,h2]
     rcases hw with h|h
     ·subst h;cases wb <;> simp <;> omega
     ·subst h;cases wa <;> simp <;> omega
    by_cases he:iU (inA ^^ wa) (inB ^^ wb)=is
    ·rw[aF he]at J;refine IT (x:=(out,is)) (by grind) ?_;rw[he]at J;exact W8 ⟨⟨_,_,J⟩,hlt⟩
    ·rw[aH he]at J;refine IT (x:=(out++[x],iU (inA ^^ wa)<|inB ^^ wb)) (by grind [j4,aB])<|W8 ⟨⟨_,_,J⟩,hlt⟩
   rcases hw with rfl|rfl
   ·rw[aF rfl]at h1;subst h1;refine IT (x:=true) (by rw[mx,aP]) ?_;rw[aP];have hle2:(bif(b'.length:Int)==0 then some true else(bif decide ((((x::ta).length:Nat):Int)>0)then((idx (x::ta) 0).bind λx181=>(idx b' 0).bind λx183=>some<|decide<|x181<=x183)else some false))=some true:=by
     cases b' with
     |nil=>rfl
     |cons y b''=>
      rw[Ai,aR,mx,aP,lh,aB,lh,aB];have:x<=y:=by
       cases wb with
       |true=>grind
       |false=>have:=hx y (.inr (by grind));omega
      rw[bS this]
    refine IT hle2 ?_;rw[aP];refine IT (x:=x) (by rw[lh,aB]) ?_;refine IT (x:=true) (by simp[mx,aP,lh,aB]) ?_;refine IT (x:=(ta,!inA)) (by grind [xl,aB]) ?_
    cases wb with
    |true=>
     rw[aF rfl]at h2;subst h2;refine IT (x:=true) (by rw[mx,aP,lh,aB];simp) ?_;refine IT (x:=(tb,!inB)) (by rw[aP,xl,aB]) ?_;exact fin _ _ (by simp) (by simp)
    |false=>
     have h2:b'=tb:=h2;subst h2;refine IT (x:=false) ?_ ?_
     ·cases b' with
      |nil=>rfl
      |cons y b''=>
       have:=hx y<|.inr (by simp)
       rw[mx,aP,lh,aB,show(y==x)=false by rw[beq_eq_false_iff_ne];omega]
     ·refine IT (x:=(b',inB)) (by rw[aR]) ?_;exact fin _ _ (by simp) (by simp)
   ·cases wa with
    |true=>
     rw[aF rfl]at h1 h2;subst h1;subst h2;refine IT (x:=true) (by rw[mx,aP]) ?_;rw[aP];refine IT (x:=true) (by rw[Ai,aR,mx,aP,lh,aB,lh,aB];simp) ?_;rw[aP];refine IT (x:=x) (by rw[lh,aB]) ?_;refine IT (x:=true) (by rw[mx,aP,lh,aB];simp) ?_;refine IT (x:=(ta,!inA)) (by rw[aP,xl,aB]) ?_;refine IT (x:=true) (by rw[mx,aP,lh,aB];simp) ?_;refine IT (x:=(tb,!inB)) (by rw[aP,xl,aB]) ?_;exact fin _ _ (by simp) (by simp)
    |false=>
     have h1:a'=ta:=h1;rw[aF rfl]at h2;subst h1;subst h2;refine IT (x:=true) (by rw[mx,Ql];simp) ?_;rw[aP];refine IT (x:=false) ?_ ?_
     ·rw[Ai,aR]
      cases a' with
      |nil=>rfl
      |cons y a''=>
       have:=hx y<|.inl (by simp)
       rw[mx,aP,lh,aB,lh,aB,cA (by omega)]
     ·rw[aR];refine IT (x:=x) (by rw[lh,aB]) ?_;refine IT (x:=false) ?_ ?_
      ·cases a' with
       |nil=>rfl
       |cons y a''=>
        have:=hx y<|.inl (by simp)
        rw[mx,aP,lh,aB,show(y==x)=false by rw[beq_eq_false_iff_ne];omega]
      ·refine IT (x:=(a',inA)) (by rw[aR]) ?_;refine IT (x:=true) (by rw[mx,aP,lh,aB];simp) ?_;refine IT (x:=(tb,!inB)) (by rw[aP,xl,aB]) ?_;exact fin _ _ (by simp) (by simp)
  ·have ea:a'= []:=Classical.byContradiction λh=>hne<|.inl h
   have eb:b'= []:=Classical.byContradiction λh=>hne<|.inr h
   subst ea;subst eb;refine IT (x:=false) rfl ?_;refine Xd ⟨I.inc,?_,λx=>?_,λc hc=>?_⟩
   ·have h1:=I.ea;have h2:=I.eb;rw[ng]at h1 h2;have h3:Ns out=false:=by
     rw[<-I.oo,I.ok,I.oa,I.ob,<-h1,<-h2];unfold Ns;rw[hae,hbe];exact hk
    unfold Ns at h3;rw[beq_eq_false_iff_ne]at h3;dsimp only;omega
   ·have:=I.UL x (λd hd=>by rcases hd with h|h <;> cases h);have h1:=I.ea;have h2:=I.eb;rw[ng]at h1 h2;rw[h1,h2];exact this
   ·have h1:=I.ea;have h2:=I.eb;rw[ng]at h1 h2;rw[h1,h2];exact I.mem c hc
 ·exact⟨[],[],rfl,rfl,rfl,rfl,rfl,hk.symm,λc hc=>(by rcases hc with h|h|h <;> cases h),ky,λx _=>hk.symm,λc hc=>(by cases hc),cJ _⟩
 ·rintro o ho;exact Xf ho (λs h=>IS h)<|λr=>r.elim
theorem fY.app{s t:Z Bd}(h:fY (s++t)):fY t:=⟨λb hb=>h.each b<|List.mem_append_right _ hb,(List.pairwise_append.1 h.ord).2.1⟩
theorem fY.low{b:Bd}{s:Z Bd}(h:fY (b::s)):∀c∈b::s,b.y0<=c.y0:=λc hc=>by
 rcases fp.1 hc with rfl|hc
 ·exact Int.le_refl _
 ·have:=h.FK c hc;have:=(h.each b (by simp)).1;omega
theorem fY.high{s:Z Bd}{b:Bd}(h:fY (s++[b])):∀c∈s++[b],c.y1<=b.y1:=λc hc=>by
 rcases dJ.1 hc with hc|hc
 ·have:=((List.pairwise_append.1 h.ord).2.2 c hc b (by simp)).1;have:=(h.each b (by simp)).1;omega
 ·simp at hc;subst hc;exact Int.le_refl _
def K7(s:Z aA)(y e:Int):Z Int×Int:=match s with
 | []=>([],e)
 |b::_=>if y<b.Y0 then([],if b.Y0<e then b.Y0 else e)else(b.Xs,if b.Y1<e then b.Y1 else e)
theorem OU{α:Type}(x:α)(l:Z α):idx (x::l) 0=some x:=rfl
theorem RA(s:Z aA)(y e:Int):pF N s y e=some (K7 s y e):=by
 unfold pF K7
 cases s with
 |nil=>rfl
 |cons b s=>
  grind [Ai,OU,aB,bS,cA]
theorem MJ{s:Z aA}{y e:Int}{X Y:Z Int}(hc:fY (s.map cR))(hl:BX X Y (s.map cR))(hh:∀b t,s=b::t->y<b.Y1)(hy:y<e):
  y<(K7 s y e).2/\(K7 s y e).2<=e/\(∀y',y<=y'->y'<(K7 s y e).2->rowAt (s.map cR) y'=(K7 s y e).1)/\kC (K7 s y e).1/\(K7 s y e).1.length % 2=0/\((K7 s y e).2=e\/(K7 s y e).2∈Y)/\∀c∈(K7 s y e).1,c∈X:=by
 cases s with
 |nil=>exact⟨hy,Int.le_refl _,λy' _ _=>rfl,ky,rfl, .inl rfl,λc hc=>(by cases hc)⟩
 |cons b t=>
  have hb:=hc.each (cR b) (by simp);have hlb:=hl (cR b) (by simp);have h1:=hh b t rfl;unfold K7;dsimp only
  by_cases h:y<b.Y0
  ·rw[aF h];dsimp only;refine⟨by omega,by omega,λy' h2 h3=>?_,ky,rfl,?_,λc hc=>(by cases hc)⟩
   ·exact hc.Ad (by show y'<b.Y0;omega)
   ·split
    ·exact .inr hlb.1
    omega
  grind [fY.pd,cR]
theorem HG{y:Int}{a:Z aA}(hN:a.length<N){body:Z aA->aT (Fl (Z aA) Empty)}
  (hb:body=λ(s373:Z aA)=>((bif decide ((s373.length:Int)>0)then((idx s373 0).bind λx407=>some<|decide<|x407.Y1<=y)else some false).bind λs405=>bif s405 then((vB s373 1 (s373.length:Int)).bind λx410=>some<|.nx x410)else(some<|.br s373):aT (Fl (Z aA) Empty))):
  Ok (iD body N a) (UI (λa'=>∃p,a=p++a'/\(∀c∈p,c.Y1<=y)/\∀b t,a'=b::t->y<b.Y1)<|λ_=>True):=by
 subst hb;refine X2 (λa'=>∃p,a=p++a'/\∀c∈p,c.Y1<=y) List.length ?_ ⟨[],rfl,λc hc=>(by cases hc)⟩ hN;rintro a'⟨p,e,hp⟩
 cases a' with
 |nil=>simp_all[IT,Xd]
 |cons b t=>
  refine IT (x:=decide<|b.Y1<=y) (by rw[mx,aP,OU,aB]) ?_;refine Xn (λh=>?_)<|λh=>Xd ⟨p,e,hp,λb' t' h'=>?_⟩
  ·have h:=of_decide_eq_true h;refine IT (xl b t)<|W8 ⟨⟨p++[b],by rw[e];simp,λc hc=>?_⟩,by simp⟩
   grind
  grind
theorem Ki{p a':Z Bd}{y y':Int}(hp:∀c∈p,c.y1<=y)(h:y<=y'):rowAt (p++a') y'=rowAt a' y':=by
 grind [uz]
structure ID (iU:Bool->Bool->Bool) (X Y:Z Int) (a b s:Z aA):Prop where
 can:fY (s.map cR)
 cover:∀x y,yW (s.map cR) x y=iU (yW (a.map cR) x y) (yW (b.map cR) x y)
 FQ:BX X Y (s.map cR)
theorem FY{s:Z aA}(hs:s≠[])(hl:s.length<=1099511627776)(hc:fY (s.map cR)):∃f l,idx s 0=some f/\idx s (wrap .i64<|((s.length:Nat):Int) - 1)=some l/\f∈s/\l∈s/\∀c∈s,f.Y0<=c.Y0/\c.Y1<=l.Y1:=by
 cases s with
 |nil=>grind
 |cons f t=>
  rw[iL (by simp) (by omega)];have hlt:(f::t).length - 1<(f::t).length:=by simp
  refine⟨f,(f::t)[(f::t).length - 1],rfl,nu _ _ hlt,by simp,cH _,λc hcm=>⟨?_,?_⟩⟩
  ·exact hc.low (cR c)<|dN.2 ⟨c,hcm,rfl⟩
  ·have e:(f::t)=(f::t).dropLast++[(f::t)[(f::t).length - 1]]:=by
    grind [List.dropLast_concat_getLast]
   generalize (f::t)[(f::t).length - 1]=l at e;have hc2:=hc;rw[e,fH]at hc2;have hm:cR c∈(List.map cR (f::t).dropLast++[cR l]):=by
    grind
   exact fY.high hc2 (cR c) hm
theorem LK{φ:Bool->Bool->aT Bool}{iU:Bool->Bool->Bool}(hφ:∀p q,φ p q=some (iU p q))(hk:iU false false=false){a b:Z aA}{X Y:Z Int}(ca:fY (a.map cR))(cb:fY (b.map cR))
  (la:BX X Y (a.map cR)) (lb:BX X Y (b.map cR)) (hX:X.length<=1048576000) (hY:Y.length<=1048576000) (hs:∀c∈Y,small c) (hN:ns N):Ok (tm N a b φ) (ID iU X Y a b):=by
 have rG:a.length<=Y.length:=by have:=la.len ca;grind
 have hbl:b.length<=Y.length:=by have:=lb.len cb;grind
 unfold tm;rw[wrap_add (by omega)];refine Xn (λh=>IS ?_)<|λh=>?_
 ·have h:a.length+b.length=0:=by grind
  have e1:a= []:=List.eq_nil_of_length_eq_zero (by omega);have e2:b= []:=List.eq_nil_of_length_eq_zero (by omega);subst e1;subst e2;exact⟨fY.nil,λx y=>hk.symm,λc hc=>(by cases hc)⟩
 have h0:a≠[]\/b≠[]:=by
  grind
 refine WO (XM (λk s=>match k with| 0=>True| 1=>a= []\/((∀c∈a,s.1<=c.Y0/\c.Y1<=s.2)/\s.1∈Y/\s.2∈Y)|_=>(∀c∈a,s.1<=c.Y0/\c.Y1<=s.2)/\(∀c∈b,s.1<=c.Y0/\c.Y1<=s.2)/\s.1∈Y/\s.2∈Y) (by simp) trivial<|λk s hk hI=>?_) ?_
 ·obtain⟨y,e⟩:=s;have hk:k=0\/k=1:=by grind
  rcases hk with rfl|rfl
  ·refine WV (x:=a) rfl ?_
   by_cases ea:a= []
   ·grind [IT,IS]
   ·obtain⟨f,l,f1,f2,f3,f4,f5⟩:=FY ea (by omega) ca;have hpos:decide (((a.length:Nat):Int)>0)=true:=bS (by grind);refine IT (x:=(f.Y0,l.Y1)) ?_<|IS<|.inr ⟨f5,(la _<|dN.2 ⟨f,f3,rfl⟩).1,(la _<|dN.2 ⟨l,f4,rfl⟩).2.1⟩
    grind
  ·refine WV (x:=b) rfl ?_;have hI:a= []\/((∀c∈a,y<=c.Y0/\c.Y1<=e)/\y∈Y/\e∈Y):=hI
   by_cases eb:b= []
   ·subst eb;refine IT (x:=(y,e)) rfl<|IS ?_
    rcases hI with h|⟨h1,h2,h3⟩
    ·rcases h0 with h'|h'
     ·exact absurd h h'
     ·exact absurd rfl h'
    ·exact⟨h1,λc hc=>(by cases hc),h2,h3⟩
   ·obtain⟨f,l,f1,f2,f3,f4,f5⟩:=FY eb (by omega) cb;have hpos:decide (((b.length:Nat):Int)>0)=true:=bS (by have:=List.length_pos_iff.2 eb;omega);have g1:f.Y0∈Y:=(lb _<|dN.2 ⟨f,f3,rfl⟩).1;have g2:l.Y1∈Y:=(lb _<|dN.2 ⟨l,f4,rfl⟩).2.1
    by_cases ea:a= []
    ·subst ea;refine IT (x:=(f.Y0,l.Y1)) ?_<|IS ⟨λc hc=>(by cases hc),f5,g1,g2⟩
     rw[hpos,aP];show((some true).bind _)=_;rw[aB,aP,f1,aB,f2,aB,aB,aB,aB];simp
    ·obtain⟨h1,h2,h3⟩:=hI.resolve_left ea;refine IT (x:=(if f.Y0<y then f.Y0 else y,if e<l.Y1 then l.Y1 else e)) ?_<|IS ⟨λc hc=>?_,λc hc=>?_,?_,?_⟩
     ·rw[hpos,aP];have ez:(((a.length:Nat):Int)==0)=false:=by rw[beq_eq_false_iff_ne];have:=List.length_pos_iff.2 ea;omega
      rw[ez];show((some false).bind _)=_;rw[aB,aR,aB,f1,aB,f2,aB]
     ·have:=h1 c hc;dsimp only;split <;> split <;> omega
     ·have:=f5 c hc;dsimp only;split <;> split <;> omega
     ·dsimp only;split
      ·exact g1
      ·exact h2
     ·dsimp only;split
      ·exact g2
      ·exact h3
 ·rintro⟨y0,e0⟩hI;have hI:(∀c∈a,y0<=c.Y0/\c.Y1<=e0)/\(∀c∈b,y0<=c.Y0/\c.Y1<=e0)/\y0∈Y/\e0∈Y:=hI;obtain⟨ia,ib,iy,ie⟩:=hI;have sy:=hs _ iy;have se:=hs _ ie;unfold small at sy se;dsimp only
  refine WO (X2 (Go:=λs=>ID iU X Y a b s.2.2.1) (Rt:=λ_=>True)
   (λs=>∃pa pb,a=pa++s.1/\b=pb++s.2.1/\(∀c∈pa,c.Y1<=s.2.2.2)/\(∀c∈pb,c.Y1<=s.2.2.2)/\y0<=s.2.2.2/\s.2.2.2<=max y0 e0/\s.2.2.2∈Y/\fY (s.2.2.1.map cR)/\BX X Y (s.2.2.1.map cR)/\(∀c∈s.2.2.1,c.Y1<=s.2.2.2)/\
    ∀x y,yW (s.2.2.1.map cR) x y=(iU (yW (a.map cR) x y) (yW (b.map cR) x y)&&decide (y<s.2.2.2)))
   (λs=>(e0 - s.2.2.2).toNat) ?_ ?_ (by dsimp only;omega)) ?_
  ·rintro⟨a',b',out,y⟩⟨pa,pb,ea,eb,hpa,hpb,hy0,hye,hyY,hcan,hlim,htop,hcov⟩;dsimp only at ea eb hpa hpb hy0 hye hyY hcan hlim htop hcov ⊢;refine Xn (λh=>?_)<|λh=>Xd ?_
   ·have hlt:y<e0:=of_decide_eq_true h;have hsl:∀(p s t:Z aA),t=p++s->s.length<=t.length:=λp s t e=>by rw[e];simp
    have hal':=hsl _ _ _ ea;have hbl':=hsl _ _ _ eb;refine WO (HG (y:=y) (a:=a') (by omega) rfl)<|λo ho=>Xf ho ?_<|λr=>r.elim
    rintro a2⟨qa,ea2,hqa,hha⟩;refine WO (HG (y:=y) (a:=b') (by omega) rfl)<|λo ho=>Xf ho ?_<|λr=>r.elim
    rintro b2⟨qb,eb2,hqb,hhb⟩;have ea3:a=(pa++qa)++a2:=by rw[ea,ea2];simp
    have eb3:b=(pb++qb)++b2:=by rw[eb,eb2];simp
    have hPa:∀c∈pa++qa,c.Y1<=y:=λc hc=>by rcases dJ.1 hc with h|h;exact hpa c h;exact hqa c h
    have hPb:∀c∈pb++qb,c.Y1<=y:=λc hc=>by rcases dJ.1 hc with h|h;exact hpb c h;exact hqb c h
    have ca2:fY (a2.map cR):=by have:=ca;rw[ea3,fH]at this;exact this.app
    have cb2:fY (b2.map cR):=by have:=cb;rw[eb3,fH]at this;exact this.app
    have la2:BX X Y (a2.map cR):=λc hc=>la c (by rw[ea3,fH];exact List.mem_append_right _ hc);have lb2:BX X Y (b2.map cR):=λc hc=>lb c (by rw[eb3,fH];exact List.mem_append_right _ hc);refine IT (RA a2 y e0)<|IT (RA b2 y e0) ?_
    obtain⟨a1,a3,a4,a5,a6,a7,a8⟩:=MJ ca2 la2 hha hlt;obtain⟨b1,b3,b4,b5,b6,b7,b8⟩:=MJ cb2 lb2 hhb hlt;have hal2:(K7 a2 y e0).1.length<=X.length:=fL a5.nodup a8;have hbl2:(K7 b2 y e0).1.length<=X.length:=fL b5.nodup b8;generalize K7 a2 y e0=pa2 at *;generalize K7 b2 y e0=pb2 at *;obtain⟨xa,n⟩:=pa2;obtain⟨xb,m⟩:=pb2;dsimp only at *;refine WO (Nt hφ hk a5 b5 a6 b6 (by omega) (by omega) (by omega)) ?_;rintro row⟨r1,r2,r3,r4⟩;have hnx:∃nx,nx=(if m<n then m else n)/\y<nx/\nx<=e0/\nx<=n/\nx<=m/\nx∈Y:=by
     refine⟨_,rfl,by split <;> omega,by split <;> omega,by split <;> omega,by split <;> omega,?_⟩;split
     ·rcases b7 with h|h
      ·rw[h];exact ie
      ·exact h
     ·rcases a7 with h|h
      ·rw[h];exact ie
      ·exact h
    obtain⟨nx,hnx,n1,n2,n3,n4,n5⟩:=hnx;rw[<-hnx];have hol:out.length<=Y.length:=by have:=hlim.len hcan;rwa[dQ]at this
    obtain⟨out',p1,p2⟩:=MG (N:=N) (s:=out) (b:=⟨y,nx,row⟩) (by omega) (λc hc=>by
     have:=hlim.row hcan (b:=cR c)<|dN.2 ⟨c,hc,rfl⟩
     have e:(cR c).xs=c.Xs:=rfl
     rw[e]at this;omega)
    refine IT p1 ?_;have htop':∀c∈out.map cR,c.y1<=(cR ⟨y,nx,row⟩).y0:=λc hc=>by
     obtain⟨d,hd,rfl⟩:=dN.1 hc;exact htop d hd
    refine W8 ⟨⟨pa++qa,pb++qb,ea3,eb3,λc hc=>by have:=hPa c hc;dsimp only;omega,λc hc=>by have:=hPb c hc;dsimp only;omega,by dsimp only;omega,by dsimp only;omega,n5,by dsimp only;rw[p2];exact Af hcan htop' r1 r2,?_,λc hc=>?_,λx y'=>?_⟩,by dsimp only;omega⟩
    ·dsimp only;rw[p2];refine hlim.push hyY n5<|λc hc=>?_
     rcases r4 c hc with h|h
     ·exact a8 c h
     ·exact b8 c h
    ·have hm':cR c∈kU (out.map cR) (cR ⟨y,nx,row⟩):=by rw[<-p2];exact dN.2 ⟨c,hc,rfl⟩
     exact Ag htop' (by show y<=nx;omega) _ hm'
    ·show sq (rowAt (out'.map cR) y') x=_;rw[p2,Ae htop' (λc hc=>(hcan.each c hc).1)<|λh=>absurd h (by show ¬nx<=y;omega)]
     by_cases hyy:y<=y'/\y'<nx
     ·rw[aF (show(cR ⟨y,nx,row⟩).y0<=y'/\y'<(cR ⟨y,nx,row⟩).y1 from hyy),bS hyy.2,Bool.and_true];show sq row x=_;have mp:∀p q:Z aA,(∀c∈p++q,c.Y1<=y)->∀c∈(p++q).map cR,c.y1<=y:=λp q h c hc=>by
       obtain⟨d,hd,rfl⟩:=dN.1 hc;exact h d hd
      have q1:yW (a.map cR) x y'=sq xa x:=by
       unfold yW;rw[ea3,fH,Ki (mp _ _ hPa) hyy.1,a4 y' hyy.1 (by omega)]
      have q2:yW (b.map cR) x y'=sq xb x:=by
       unfold yW;rw[eb3,fH,Ki (mp _ _ hPb) hyy.1,b4 y' hyy.1 (by omega)]
      rw[r3,q1,q2]
     ·rw[aH (show ¬((cR ⟨y,nx,row⟩).y0<=y'/\y'<(cR ⟨y,nx,row⟩).y1)from hyy)];show yW (out.map cR) x y'=_;rw[hcov]
      by_cases h1:y'<y
      ·rw[bS h1,bS (show y'<nx by omega)]
      ·rw[cA h1,cA (show ¬y'<nx by omega)]
   ·have hge:e0<=y:=by have:=of_decide_eq_false h;omega
    refine⟨hcan,λx y'=>?_,hlim⟩;dsimp only;rw[hcov]
    by_cases h1:y'<y
    ·rw[bS h1,Bool.and_true]
    ·have z:∀s:Z aA,(∀c∈s,y0<=c.Y0/\c.Y1<=e0)->yW (s.map cR) x y'=false:=λs h=>by
      unfold yW;rw[nA λc hc=>?_]
      ·rfl
      ·obtain⟨d,hd,rfl⟩:=dN.1 hc;exact .inr (by have:=(h d hd).2;show d.Y1<=y';omega)
     rw[z a ia,z b ib,hk];rfl
  ·refine⟨[],[],rfl,rfl,λc hc=>(by cases hc),λc hc=>(by cases hc),Int.le_refl _,by dsimp only;omega,iy,fY.nil,λc hc=>(by cases hc),λc hc=>(by cases hc),λx y=>?_⟩;dsimp only;show false=_
   by_cases h1:y<y0
   ·have z:∀s:Z aA,(∀c∈s,y0<=c.Y0/\c.Y1<=e0)->yW (s.map cR) x y=false:=λs h=>by
     unfold yW;rw[nA λc hc=>?_]
     ·rfl
     ·obtain⟨d,hd,rfl⟩:=dN.1 hc;exact .inl (by have:=(h d hd).1;show y<d.Y0;omega)
    rw[z a ia,z b ib,hk];rfl
   ·rw[cA h1,Bool.and_false]
  ·rintro o ho;exact Xf ho (λs h=>IS h)<|λr=>r.elim
theorem Nu{a b:Z aA}{X Y:Z Int}(ca:fY (a.map cR))(cb:fY (b.map cR))(la:BX X Y (a.map cR))(lb:BX X Y (b.map cR))(hX:X.length<=1048576000)(hY:Y.length<=1048576000)(hs:∀c∈Y,small c)(hN:ns N):
  Ok (mR N a b) (ID (λp q=>p&& !q) X Y a b):=by
 unfold mR;exact WO (LK (iU:=λp q=>p&& !q) (λp q=>rfl) rfl ca cb la lb hX hY hs hN)<|λs h=>IS h
end
section
variable {N:Nat}
structure UF (n:Nat) (up:Z Int) (r:Nat->Nat):Prop where
 len:up.length=n
 rt:∀i,i<n->∃u:Nat,up[i]? =some (u:Int)/\u<=i/\r u=r i/\(u=i↔r i=i)
theorem UF.le{n:Nat}{up:Z Int}{r:Nat->Nat}(h:UF n up r):∀i,i<n->r i<=i:=by
 intro i
 induction i using Nat.strongRecOn with
 |ind i ih=>
  intro hi;obtain⟨u,_,h2,h3,h4⟩:=h.rt i hi
  grind
theorem UF.rr{n:Nat}{up:Z Int}{r:Nat->Nat}(h:UF n up r):∀i,i<n->r (r i)=r i:=by
 intro i
 induction i using Nat.strongRecOn with
 |ind i ih=>
  intro hi;obtain⟨u,_,h2,h3,h4⟩:=h.rt i hi
  grind
theorem sf{l:Z Int}{j:Nat}{v:Int}{i:Nat}(hj:j<l.length):(l.set j v)[i]? =if i=j then some v else l[i]? :=by
 grind
theorem UF.init(n:Nat)(up:Z Int)(h1:up.length=n)(h2:∀i,i<n->up[i]? =some ((i:Nat):Int)):UF n up (λi=>i):=
 ⟨h1,λi hi=>⟨i,h2 i hi,cJ _,rfl,by simp⟩⟩
theorem zH{n:Nat}(hn:n<=1048576000):∃up,lC N (n:Int)=some up/\UF n up (λi=>i):=by
 unfold lC;rw[oC 0 (by omega),aB];have h0:(List.replicate n (0:Int)).length=n:=by simp
 obtain⟨s',h1,h2⟩:=ES (m:=(List.replicate n (0:Int)).length) (s:=List.replicate n (0:Int)) (body:=λ(k34:Nat)(s35:Z Int)=>((idx s35 (k34:Int)).bind λx38=>some (s35.set (Int.toNat (k34:Int)) (k34:Int)):aT (Z Int)))
  (λk s=>s.length=n/\∀i,i<k->s[i]? =some ((i:Nat):Int)) (by omega) ⟨h0,λi hi=>by omega⟩ (λk s hk⟨hs,hi⟩=>by
   grind [nu,aB,cK,sf])
 grind [aB,UF.init]
theorem tT{n:Nat}{up:Z Int}{r:Nat->Nat}(h:UF n up r){i:Nat}(hi:i<n)(hn:n<N):∃up',fO N up (i:Int)=some (((r i:Nat):Int),up')/\UF n up' r:=by
 unfold fO;obtain⟨o,h1,h2⟩:=Ct (R:=Empty) (body:=λ(s32:Z Int×Int)=>((idx s32.1 s32.2).bind λx43=>bif x43 != s32.2 then((idx s32.1 s32.2).bind λx44=>(idx s32.1 x44).bind λx45=>(idx s32.1 s32.2).bind λx46=>(idx (s32.1.set (Int.toNat s32.2) x45) s32.2).bind λx47=>some<|.nx (s32.1.set (Int.toNat s32.2) x45,x47))else(some<|.br (s32.1,s32.2)):aT (Fl (Z Int×Int) Empty)))
  (λs=>UF n s.1 r/\∃j:Nat,s.2=(j:Int)/\j<n/\r j=r i) (λs=>s.2.toNat) (λs=>s.2=((r i:Nat):Int)/\UF n s.1 r) (λ_=>True) (λs⟨hu,j,hj,hjn,hr⟩=>by
   obtain⟨l,y⟩:=s;dsimp only at hu hj ⊢;subst hj;obtain⟨u,a1,a2,a3,a4⟩:=hu.rt j hjn;rw[cB a1,aB]
   by_cases e:u=j
   ·simp_all
   ·obtain⟨v,b1,b2,b3,b4⟩:=hu.rt u (by omega);have hl:=hu.len
    refine⟨.nx (l.set j (v:Int),(v:Int)),by
     grind [aB,cB,cK,sf],⟨⟨by simp[hl],λk hk=>?_⟩,v,rfl,by omega,?_⟩,?_⟩
    ·rw[sf (by omega)]
     by_cases e2:k=j
     ·grind
     ·rw[aH e2];exact hu.rt k hk
    ·omega
    omega)
  N (up,(i:Int)) ⟨h,i,rfl,hi,rfl⟩ (by omega)
 rw[h1,aB]
 cases o with
 |go s'=>exact⟨s'.1,by rw[<-h2.1];rfl,h2.2⟩
 |rt r=>exact r.elim
def tW(r:Nat->Nat)(a b:Nat):Nat->Nat:=λx=>if r x=max a b then min a b else r x
theorem OV(a b:Nat):(if(a:Int)<(b:Int)then(b:Int)else(a:Int))=((max a b:Nat):Int):=by
 omega
theorem OW(a b:Nat):(if(b:Int)<(a:Int)then(b:Int)else(a:Int))=((min a b:Nat):Int):=by
 omega
theorem MK{n:Nat}{up:Z Int}{r:Nat->Nat}(h:UF n up r){i k:Nat}(hi:i<n)(hk:k<n)(hn:n<N):
  ∃up',fV N up (i:Int) (k:Int)=some up'/\UF n up' (tW r (r i)<|r k):=by
 obtain⟨u1,a1,a2⟩:=tT h hi hn;obtain⟨u2,b1,b2⟩:=tT a2 hk hn;have hri:=h.le i hi;have hrk:=h.le k hk;have rri:=h.rr i hi;have rrk:=h.rr k hk;unfold fV;rw[a1,aB,b1,aB];dsimp only;rw[OV,OW];have hm:max (r i) (r k)<n:=by omega
 have hl:=b2.len;rw[nu _ _ (by omega),aB,cK];refine⟨_,rfl,by simp[hl],λx hx=>?_⟩;have rmax:r (max (r i)<|r k)=max (r i) (r k):=by grind
 have rmin:r (min (r i)<|r k)=min (r i) (r k):=by grind
 rw[sf (by omega)]
 by_cases e:x=max (r i) (r k)
 ·grind [Min.min,tW]
 ·rw[aH e];obtain⟨u,c1,c2,c3,c4⟩:=b2.rt x hx
  grind [tW,Min.min,Max.max]
def oq(r:Nat->Nat)(E:Z (Nat×Nat)):Prop:=∀p∈E,r p.1=r p.2
def yT(n:Nat)(r:Nat->Nat)(E:Z (Nat×Nat)):Prop:=∀S:Nat->Prop,(∀p∈E,S p.1↔S p.2)->∀i j,i<n->j<n->r i=r j->S i->S j
theorem oq.join{r:Nat->Nat}{E:Z (Nat×Nat)}(h:oq r E)(i k:Nat)(_h2:r (r i)=r i):oq (tW r (r i)<|r k) (E++[(i,k)]):=λp hp=>by
 rcases dJ.1 hp with hp|hp
 ·unfold tW;rw[h p hp]
 ·simp at hp;subst hp;unfold tW;dsimp only;split <;> split <;> omega
theorem yT.join{n:Nat}{r:Nat->Nat}{E:Z (Nat×Nat)}(h:yT n r E){i k:Nat}(hi:i<n)(hk:k<n):yT n (tW r (r i)<|r k) (E++[(i,k)]):=λS hS x y hx hy hr hSx=>by
 have hE:∀p∈E,S p.1↔S p.2:=λp hp=>hS p<|List.mem_append_left _ hp
 have hik:S i↔S k:=hS (i,k) (by simp);have key:=h S hE;unfold tW at hr
 by_cases h1:r x=r y
 ·exact key x y hx hy h1 hSx
 ·have:(r x=r i/\r y=r k)\/(r x=r k/\r y=r i):=by
   split at hr <;> split at hr <;> omega
  rcases this with⟨e1,e2⟩|⟨e1,e2⟩
  ·exact key k y hk hy e2.symm<|hik.1<|key x i hx hi e1 hSx
  ·exact key i y hi hy e2.symm<|hik.2<|key x k hx hk e1 hSx
theorem yT.id(n:Nat):yT n (λi=>i) []:=λS _ i j _ _ h hs=>by
 have h:i=j:=h;subst h;exact hs
theorem oq.id:oq (λi=>i) []:=λp hp=>by simp at hp
def bV(n:Nat)(r:Nat->Nat):Z Nat:=(List.range n).filter<|λk=>decide<|r k=k
def cls(n:Nat)(r:Nat->Nat)(k:Nat):Z Nat:=(List.range n).filter<|λi=>decide<|r i=k
theorem iA(n:Nat)(r:Nat->Nat):bV (n+1) r=if r n=n then bV n r++[n]else bV n r:=by
 grind [bV,List.range_succ]
theorem zI(n:Nat)(r:Nat->Nat)(k:Nat):cls (n+1) r k=if r n=k then cls n r k++[n]else cls n r k:=by
 grind [cls,List.range_succ]
theorem me(n:Nat)(r:Nat->Nat):(bV n r).length<=n:=by
 have:=ln (λk=>decide<|r k=k)<|List.range n
 rw[List.length_range]at this;exact this
theorem CL(n:Nat)(r:Nat->Nat)(k:Nat):(cls n r k).length<=n:=by
 have:=ln (λi=>decide<|r i=k)<|List.range n
 rw[List.length_range]at this;exact this
theorem iN{n k:Nat}{r:Nat->Nat}:k∈bV n r↔k<n/\r k=k:=by simp[bV]
theorem nb(n:Nat)(r:Nat->Nat):(bV n r).Nodup:=List.Nodup.sublist List.filter_sublist List.nodup_range
def vn(n:Nat)(r:Nat->Nat):Z (Z Int):=(bV n r).map<|λk=>(cls n r k).map<|λi=>((i:Nat):Int)
theorem ML{n k:Nat}{r:Nat->Nat}(h:∀i,i<n->r i<=i)(hk:n<=k):cls n r k= []:=by
 grind [cls,List.filter_eq_nil_iff]
theorem zJ{α β:Type}(f g:α->β)(l:Z α)(j:Nat)(a:α)(hn:l.Nodup)(hj:l[j]? =some a)(hf:∀b,b∈l->b≠a->f b=g b):(l.map f).set j (g a)=l.map g:=by
 apply List.ext_getElem?;intro i;have hjl:=(bR.1 hj).1;rw[lU,dQ,iE,iE]
 grind [bR,List.getElem_inj,gh]
def UM(n:Nat)(r:Nat->Nat)(m:Z (Int×Int)):Prop:=∀(j k:Nat),(bV n r)[j]? =some k->fU m (k:Int) 0=(j:Int)
theorem Qu{n:Nat}{up:Z Int}{r:Nat->Nat}(h:UF n up r)(hn:n<N)(hn2:n<=1048576000):∃up',lL N up=some (vn n r,up')/\UF n up' r:=by
 unfold lL;have hlen:=h.len;have hle:=h.le;have hrr:=h.rr;obtain⟨s',h1,h2⟩:=ES (m:=up.length) (s:=(up,([]:Z (Z Int)),([]:Z (Int×Int))))
  (body:=λ(k32:Nat)(s33:Z Int×Z (Z Int)×Z (Int×Int))=>((fO N s33.1 (k32:Int)).bind λx117=>(bif x117.1==(k32:Int)then((app 24 s33.2.1 [([]:Z Int)]).bind λx126=>some (x126,tj s33.2.2 (k32:Int) (s33.2.1.length:Int)))else some (s33.2.1,s33.2.2)).bind λs122=>(idx s122.1<|fU s122.2 x117.1 (0:Int)).bind λx128=>(app 8 x128 ([(k32:Int)]:Z Int)).bind λx134=>(idx s122.1<|fU s122.2 x117.1 (0:Int)).bind λx136=>some (x117.2,s122.1.set (Int.toNat<|fU s122.2 x117.1 (0:Int)) x134,s122.2):aT (Z Int×Z (Z Int)×Z (Int×Int))))
  (λk s=>UF n s.1 r/\s.2.1=vn k r/\UM k r s.2.2) (by omega) ⟨h,rfl,λj k hj=>by grind [bV]⟩ (λk s hk⟨hu,hs,hm⟩=>by
   obtain⟨l,ss,m⟩:=s;dsimp only at hu hs hm ⊢;subst hs;rw[hlen]at hk;obtain⟨u',a1,a2⟩:=tT hu hk hn;rw[a1,aB];dsimp only;have hhl:=me k r;have hsl:(vn k r).length=(bV k r).length:=by simp[vn]
   have hrk:=hle k hk
   by_cases e:r k=k
   ·
    rw[show(((r k:Nat):Int)==((k:Nat):Int))=true by rw[e];simp,aP,j4 (by grind),aB,aB];dsimp only;rw[e,md,aF rfl,hsl];have hi:(vn k r++[([]:Z Int)])[(bV k r).length]? =some []:=by grind
    rw[cB hi,aB,j4 (by simp),aB,aB,cK];refine⟨_,rfl,a2,?_,λj q hj=>?_⟩
    ·dsimp only;rw[<-hsl,List.set_append_right _ _<|cJ _,Nat.sub_self];unfold vn;rw[iA,aF e,fH];congr 1
     ·grind [List.map_congr_left,iN,zI]
     grind [zI,ML,hle]
    ·dsimp only;rw[iA,aF e]at hj;rw[md]
     by_cases e2:j<(bV k r).length
     ·rw[kM e2]at hj;have:=(iN.1<|gh hj).1;rw[aH (by omega)];exact hm j q hj
     ·rw[ku (by omega)]at hj;have hj0:j -(bV k r).length=0:=by
       have:=(bR.1 hj).1;simp at this;omega
      rw[hj0]at hj;simp at hj;subst hj;rw[aF rfl];congr 1;omega
   ·rw[show(((r k:Nat):Int)==((k:Nat):Int))=false by simp;omega,aR,aB];dsimp only;have hh:r k∈bV k r:=iN.2 ⟨by omega,hrr k hk⟩;obtain⟨j,hj⟩:=eE hh;rw[hm j (r k) hj];have hcl:=CL k r<|r k
    have hi:(vn k r)[j]? =some ((cls k r<|r k).map<|λi=>((i:Nat):Int)):=by unfold vn;rw[iE,hj];rfl
    rw[cB hi,aB,j4 (by simp;omega),aB,aB,cK];refine⟨_,rfl,a2,?_,λj' q hj'=>?_⟩
    ·unfold vn;rw[iA,aH e]
     have:=zJ (λa=>(cls k r a).map (λi=>((i:Nat):Int))) (λa=>(cls (k+1) r a).map (λi=>((i:Nat):Int))) (bV k r) j (r k) (nb k r) hj (λb hb hne=>by
      rw[zI,aH (λh=>hne h.symm)])
     rw[zI,aF rfl,fH]at this;exact this
    ·rw[iA,aH e]at hj';exact hm j' q hj')
 rw[h1,aB];obtain⟨l,ss,m⟩:=s';dsimp only at h2;rw[hlen]at h2;refine⟨l,?_,h2.1⟩;rw[<-h2.2.1]
end
section
variable {N:Nat}
theorem IE{n:Nat}{up:Z Int}{r:Nat->Nat}(h:UF n up r){i:Nat}(hi:i<n)(hn:n<N):∃up',gD N (i:Int) up=some (((r i:Nat):Int),up')/\UF n up' r:=by
 unfold gD
 have:=WO (β:=Int×Z Int) (Q:=λx=>x.1=((r i:Nat):Int)/\UF n x.2 r) (X2 (body:=λ(s32:Int×(Z Int))=>((idx s32.2 s32.1).bind λx43=>bif(x43 != s32.1)then((idx s32.2 s32.1).bind λx44=>(idx s32.2 x44).bind λx45=>(idx s32.2 s32.1).bind λx46=>(idx (s32.2.set (Int.toNat s32.1) x45) s32.1).bind λx47=>some (.nx (x47,(s32.2.set (Int.toNat s32.1) x45))))else(some (.br (s32.1,s32.2))):aT (Fl (Int×(Z Int)) Empty)))
  (N:=N) (s:=((i:Int),up)) (Go:=λs=>s.1=((r i:Nat):Int)/\UF n s.2 r) (Rt:=λ_=>True) (λs=>UF n s.2 r/\∃j:Nat,s.1=(j:Int)/\j<n/\r j=r i) (λs=>s.1.toNat) (by
   rintro⟨y,l⟩⟨hu,j,hj,hjn,hr⟩;dsimp only at hu hj ⊢;subst hj;obtain⟨u,a1,a2,a3,a4⟩:=hu.rt j hjn;refine WV a1 ?_
   by_cases e:u=j
   ·grind [Xd]
   ·obtain⟨v,b1,b2,b3,b4⟩:=hu.rt u (by omega);have hl:=hu.len;rw[show((u:Int) != (j:Int))=true by simp;omega,aP];refine WV a1<|WV b1<|WV a1<|WV (x:=(v:Int)) (by grind)<|W8 ⟨⟨⟨by simp[hl],λk hk=>?_⟩,v,rfl,by omega,?_⟩,?_⟩
    ·rw[cK,sf (by omega)]
     by_cases e2:k=j
     ·grind
     ·rw[aH e2];exact hu.rt k hk
    ·omega
    omega)
  ⟨h,i,rfl,hi,rfl⟩ (by omega))
  (λo ho=>Xf (f:=λ(s32:Int×Z Int)=>some (s32.1,s32.2)) (g:=λr:Empty=>r.elim) ho (λs h=>IS h)<|λr=>r.elim)
 obtain⟨⟨x,up'⟩,h1,h2,h3⟩:=this
 grind
theorem OX{n:Nat}{up:Z Int}{r:Nat->Nat}(h:UF n up r){i k:Nat}(hi:i<n)(hk:k<n){f:Z Int->aT (Z Int)}(hn:n<N):
  ∃up',((gD N (i:Int) up).bind λx840=>(gD N (k:Int) x840.2).bind λx842=>(idx x842.2 (if x840.1<x842.1 then x842.1 else x840.1)).bind λx844=>some<|x842.2.set (Int.toNat (if x840.1<x842.1 then x842.1 else x840.1)) (if x842.1<x840.1 then x842.1 else x840.1))=some up'/\UF n up' (tW r (r i)<|r k):=by
 obtain⟨u1,a1,a2⟩:=IE h hi hn;obtain⟨u2,b1,b2⟩:=IE a2 hk hn;obtain⟨v1,c1,c2⟩:=tT h hi hn;have hri:=h.le i hi;have hrk:=h.le k hk;have rri:=h.rr i hi;have rrk:=h.rr k hk;rw[a1,aB,b1,aB];dsimp only;rw[OV,OW];have hm:max (r i) (r k)<n:=by omega
 have hl:=b2.len;rw[nu _ _ (by omega),aB,cK];refine⟨_,rfl,by simp[hl],λx hx=>?_⟩;have rmax:r (max (r i)<|r k)=max (r i) (r k):=by grind
 have rmin:r (min (r i)<|r k)=min (r i) (r k):=by grind
 rw[sf (by omega)]
 by_cases e:x=max (r i) (r k)
 ·grind [Min.min,tW]
 ·rw[aH e];obtain⟨u,c1,c2,c3,c4⟩:=b2.rt x hx
  grind [tW,Max.max]
def kK(s:Z aA)(k:Nat):Nat:=(bA<|s.take k).length
theorem Dy{s:Z aA}{k:Nat}(h:k<s.length):kK s (k+1)=kK s k+s[k].Xs.length / 2:=by
 grind [kK,dM,qy,eC,bA,pg,sQ]
theorem Dz{s:Z aA}{k m:Nat}(h:k<=m):kK s k<=kK s m:=by
 unfold kK;have:=Dw (s.take m) k
 grind
theorem Kj(s:Z aA):kK s s.length=(bA s).length:=by simp[kK,eD]
theorem Qv{s:Z aA}{k t:Nat}(h:k<s.length)(ht:2*t+1<s[k].Xs.length):(bA s)[kK s k+t]? =some ⟨s[k].Xs[2*t],s[k].Y0,s[k].Xs[2*t+1],s[k].Y1⟩:=by
 have e:bA s=bA (s.take k)++(pg s[k]++bA (s.drop<|k+1)):=by
  grind [List.take_append_drop,xD,qy,ph]
 grind [kK,ku,Nat.add_sub_cancel_left,kM,sQ,pg,CK]
theorem MM{s:Z aA}{i:Nat}(h:i<(bA s).length):∃k,k<s.length/\kK s k<=i/\i<kK s (k+1):=by
 have key:∀m,m<=s.length->i<kK s m->∃k,k<m/\kK s k<=i/\i<kK s (k+1):=by
  intro m
  induction m with
  |zero=>simp[kK,bA]
  |succ m ih=>
   grind
 grind [Kj]
def IF(a c:aG):Prop:=a.Y1=c.Y0/\a.X0<c.X1/\c.X0<a.X1
def C9(all:Z aG)(i j:Nat):Prop:=∃a c,all[i]? =some a/\all[j]? =some c/\IF a c
theorem Aj{s:Z aA}(he:∀b∈s,b.Xs.length % 2=0){k i:Nat}(hk:k<s.length)(h1:kK s k<=i)(h2:i<kK s (k+1)):∃t,i=kK s k+t/\∃h:2*t+1<s[k].Xs.length,(bA s)[i]? =some ⟨s[k].Xs[2*t],s[k].Y0,s[k].Xs[2*t+1],s[k].Y1⟩:=by
 rw[Dy hk]at h2;have:=he _<|cH hk
 refine⟨i - kK s k,by omega,by omega,?_⟩;have h3:=Qv (t:=i - kK s k) hk (by omega)
 grind
theorem FZ{s:Z aA}(hc:fY (s.map cR)){p q:Nat}(hp:p<s.length)(hq:q<s.length)(h:p<q):s[p].Y1<=s[q].Y0:=by
 have:=ou.1 hc.ord p q (by simp;omega) (by simp;omega) h;simp only[List.getElem_map]at this;exact this.1
theorem F0{s:Z aA}(hc:fY (s.map cR)){p:Nat}(hp:p<s.length):s[p].Y0<s[p].Y1:=(hc.each (cR s[p])<|dN.2 ⟨_,cH hp,rfl⟩).1
theorem xm{s:Z aA}(hc:fY (s.map cR)):∀b∈s,b.Xs.length % 2=0:=λb hb=>(hc.each (cR b)<|dN.2 ⟨b,hb,rfl⟩).2.2.2
theorem MN{s:Z aA}(hc:fY (s.map cR)):∀b∈s,kC b.Xs:=λb hb=>(hc.each (cR b)<|dN.2 ⟨b,hb,rfl⟩).2.2.1
theorem Kk{s:Z aA}(hc:fY (s.map cR)){i j q:Nat}(hq:q<s.length)(h1:kK s q<=j)(h2:j<kK s (q+1))(ht:C9 (bA s) i j):∃hq0:0<q,s[q - 1].Y1=s[q].Y0/\kK s (q - 1)<=i/\i<kK s q:=by
 obtain⟨a,c,ha,hb,e1,e2,e3⟩:=ht;obtain⟨t,e4,ht,hj⟩:=Aj (xm hc) hq h1 h2;rw[hj]at hb;injection hb with hb;subst hb
 have hil:=(bR.1 ha).1;obtain⟨p,hp,p1,p2⟩:=MM hil;obtain⟨u,e5,hu,hi⟩:=Aj (xm hc) hp p1 p2;rw[hi]at ha;injection ha with ha;subst ha
 have e1:s[p].Y1=s[q].Y0:=e1;have hpp:=F0 hc hp;have hqq:=F0 hc hq;have hpq:p+1=q:=by
  rcases Nat.lt_trichotomy p q with h|h|h
  ·by_cases h':p+1=q
   ·exact h'
   ·have h3:=FZ hc hp (show p+1<s.length by omega) (by omega);have h4:=FZ hc (show p+1<s.length by omega) hq (by omega);have h5:=F0 hc (show p+1<s.length by omega);omega
  ·grind
  ·have:=FZ hc hq hp h;omega
 grind
structure PJ (all:Z aG) (n:Nat) (up:Z Int) (r:Nat->Nat) (E:Z (Nat×Nat)):Prop where
 uf:UF n up r
 co:oq r E
 fi:yT n r E
 so:∀p∈E,C9 all p.1 p.2
theorem PJ.join{all:Z aG}{n:Nat}{up up':Z Int}{r:Nat->Nat}{E:Z (Nat×Nat)}(h:PJ all n up r E){i j:Nat}(hi:i<n)(hj:j<n)(hu:UF n up' (tW r (r i)<|r j))(ht:C9 all i j):PJ all n up' (tW r (r i)<|r j) (E++[(i,j)]):=
 ⟨hu,h.co.join i j (h.uf.rr i hi),h.fi.join hi hj,λp hp=>by
  rcases dJ.1 hp with hp|hp
  ·exact h.so p hp
  grind⟩
structure Joined (all:Z aG) (r:Nat->Nat):Prop where
 le:∀i,i<all.length->r i<=i
 rr:∀i,i<all.length->r (r i)=r i
 co:∀i j,C9 all i j->r i=r j
 fi:∀S:Nat->Prop,(∀i j,C9 all i j->(S i↔S j))->∀i j,i<all.length->j<all.length->r i=r j->S i->S j
def pj(all:Z aG)(n:Nat)(r:Nat->Nat)(h:Nat):Z aG:=(cls n r h).filterMap<|λi=>all[i]?
theorem F1(all:Z aG)(n:Nat)(r:Nat->Nat)(h:Nat):(pj all n r h).length<=n:=by
 grind [List.length_filterMap_le,cls,CL,pj]
theorem Ak{all:Z aG}{n:Nat}{r:Nat->Nat}(h:Nat){x:aG}(hx:all[n]? =some x):pj all (n+1) r h=if r n=h then pj all n r h++[x]else pj all n r h:=by
 grind [pj,zI]
theorem m6{all:Z aG}{n:Nat}{r:Nat->Nat}{h:Nat}{x:aG}:x∈pj all n r h↔∃i,i<n/\r i=h/\all[i]? =some x:=by
 unfold pj cls
 grind
structure vX (s:Z aA) (r:Nat->Nat) (ps:Z (Z aA)):Prop where
 join:Joined (bA s) r
 len:ps.length=(bV (bA s).length r).length
 each:∀(j h:Nat)(p:Z aA),(bV (bA s).length r)[j]? =some h->ps[j]? =some p->vm (pj (bA s) (bA s).length r h) p
def Wd(n:Nat)(r:Nat->Nat)(m:Z (Int×Int)):Prop:=(∀(j k:Nat),(bV n r)[j]? =some k->fU m (k:Int) 0=(j:Int))/\∀k:Nat,mC m (k:Int)=decide (k∈bV n r)
theorem LL{s:Z aA}{X Y:Z Int}(hc:fY (s.map cR))(hl:BX X Y (s.map cR))(hX:∀c∈X,small c)(hY:∀c∈Y,small c)(h1:s.length<=1073741824)(h2:∀b∈s,b.Xs.length<=1073741824)(h3:(bA s).length<=134217728)(hN:ns N):
  Ok (nJ N s) (λps=>∃r,vX s r ps):=by
 unfold nJ;have hev:=xm hc;have hinc:=MN hc;refine IT (FV hev (by omega) (λb hb=>by grind) (by omega)) ?_;have hok:=FW hc hl hX hY;have hall:kK s s.length=(bA s).length:=Kj s;generalize hn:(bA s).length=n at *;refine IT (oC 0 (by omega)) ?_;rw[show((List.replicate n (0:Int)).length)=n by simp];refine WO (XM (λk up=>up.length=n/\∀i,i<k->up[i]? =some ((i:Nat):Int)) (by omega) ⟨by simp,λi hi=>by omega⟩<|λk up hk hI=>?_) ?_
 ·grind [XN,IS,cK,sf]
 rintro up0⟨hu1,hu2⟩
 refine WO (XM (λk st=>st.2.1=((kK s k:Nat):Int)/\(0<k->st.2.2=((kK s (k - 1):Nat):Int))/\∃r E,PJ (bA s) n st.1 r E/\∀q,q<k->∀i j,kK s q<=j->j<kK s (q+1)->C9 (bA s) i j->(i,j)∈E) (by omega)
  ⟨rfl,λh=>by omega,_,_,⟨UF.init n up0 hu1 hu2,oq.id,yT.id n,λp hp=>(by cases hp)⟩,λq hq=>by omega⟩ (λk st hk hI=>?_)) ?_
 ·obtain⟨up,a,b⟩:=st;obtain⟨e1,e2,r,E,hP,hE⟩:=hI;dsimp only at e1 e2 hP ⊢;subst e1;refine XN hk ?_;have hoff:=Dy hk;have hoffle:kK s (k+1)<=n:=by rw[<-hall];exact Dz hk
  have hkm:=cH hk;have hlen:wrap .i64 (Int.tdiv ((s[k].Xs.length:Nat):Int) 2)=((s[k].Xs.length / 2:Nat):Int):=by
   grind [Int.ofNat_tdiv,Kg]
  rw[hlen,wrap_add (by omega),<-hoff];refine WO (P:=λc=>c=true↔∃h0:0<k,s[k - 1].Y1=s[k].Y0) ?_<|λc hcc=>?_
  ·grind [IS,iL,XN,of_decide_eq_false]
  refine WO (P:=λup'=>∃r E,PJ (bA s) n up' r E/\∀q,q<k+1->∀i j,kK s q<=j->j<kK s (q+1)->C9 (bA s) i j->(i,j)∈E) ?_<|λup' hI=>IS ⟨rfl,λ_=>rfl,hI⟩
  refine Xn (λh=>?_)<|λh=>IS ⟨r,E,hP,λq hq i j q1 q2 ht=>?_⟩
  ·obtain⟨hpos,hyy⟩:=hcc.1 h;rw[e2 hpos];have hoffp:=Dy (show k - 1<s.length by omega);rw[show k - 1+1=k by omega]at hoffp
   refine WO (X2 (Go:=λst=>∃r E,PJ (bA s) n st.1 r E/\∀q,q<k+1->∀i j,kK s q<=j->j<kK s (q+1)->C9 (bA s) i j->(i,j)∈E) (Rt:=λ_=>True)
    (λst=>∃i j:Nat,st.2.1=((i:Nat):Int)/\st.2.2=((j:Nat):Int)/\kK s (k - 1)<=i/\i<=kK s k/\kK s k<=j/\j<=kK s (k+1)/\∃r E,PJ (bA s) n st.1 r E/\(∀q,q<k->∀i j,kK s q<=j->j<kK s (q+1)->C9 (bA s) i j->(i,j)∈E)/\
     ∀i' j',kK s (k - 1)<=i'->i'<kK s k->kK s k<=j'->j'<kK s (k+1)->(i'<i\/j'<j)->C9 (bA s) i' j'->(i',j')∈E)
    (λst=>(n - st.2.1.toNat)+(n - st.2.2.toNat)) ?_ ?_ (by simp only[cK];omega)) (λo ho=>Xf ho (λst h=>IS h) (λr=>r.elim))
   ·rintro⟨up,a,b⟩⟨i,j,e3,e4,i1,i2,j1,j2,r,E,hP,hE,hE2⟩;dsimp only at e3 e4 hP ⊢;subst e3;subst e4;refine Xn (λh=>?_)<|λh=>Xd ?_
    ·rw[dB,dF,dF]at h;have hi:i<kK s k:=by omega
     have hj:j<kK s (k+1):=by omega
     obtain⟨t,et,_,hri⟩:=Aj hev (show k - 1<s.length by omega) i1 (by rw[show k - 1+1=k by omega];exact hi);obtain⟨u,eu,_,hrj⟩:=Aj hev hk j1 hj;have xi:=hinc _<|cH (show k - 1<s.length by omega)
     have xj:=hinc _ hkm;have farI:∀i' a,i<i'->i'<kK s k->(bA s)[i']? =some a->s[k - 1].Xs[2*t+1]<a.X0:=λi' a h4 h5 h6=>by
      obtain⟨t',et',ht',hr'⟩:=Aj hev (show k - 1<s.length by omega) (show kK s (k - 1)<=i' by omega) (by rw[show k - 1+1=k by omega];exact h5);rw[hr']at h6;injection h6 with h6;subst h6
      exact xi.lt (show 2*t+1<2*t' by omega) (aM _)<|aM _
     have farJ:∀j' a,j<j'->j'<kK s (k+1)->(bA s)[j']? =some a->s[k].Xs[2*u+1]<a.X0:=λj' a h4 h5 h6=>by
      obtain⟨u',eu',hu',hr'⟩:=Aj hev hk (show kK s k<=j' by omega) h5;rw[hr']at h6;injection h6 with h6;subst h6
      exact xj.lt (show 2*u+1<2*u' by omega) (aM _)<|aM _
     refine WO (P:=λc=>c=true↔C9 (bA s) i j) ?_<|λc hct=>?_
     ·refine WV hri<|WV hrj<|Xn (λh=>WV hrj<|WV hri<|IS ?_)<|λh=>IS ?_
      ·rw[dF]at h ⊢;constructor
       ·intro h';exact⟨_,_,hri,hrj,hyy,h,h'⟩
       ·rintro⟨a,c,ha,hc',_,_,h'⟩;rw[hri]at ha;injection ha with ha;subst ha
        rw[hrj]at hc';injection hc' with hc';subst hc'
        exact h'
      ·constructor
       ·intro h;cases h
       ·rintro⟨a,c,ha,hc',_,h',_⟩;rw[hri]at ha;injection ha with ha;subst ha
        rw[hrj]at hc';injection hc' with hc';subst hc'
        rw[decide_eq_false_iff_not]at h;exact absurd h' h
     refine WO (P:=λup'=>∃r E',PJ (bA s) n up' r E'/\(∀p∈E,p∈E')/\(C9 (bA s) i j->(i,j)∈E')) ?_ ?_
     ·refine Xn (λh=>?_)<|λh=>IS ⟨r,E,hP,λp hp=>hp,λht=>by rw[hct.2 ht]at h;cases h⟩
      obtain⟨up',u1,u2⟩:=OX (N:=N) (f:=λx=>some x) hP.uf (i:=i) (k:=j) (by omega) (by omega) (by omega);refine⟨up',u1,_,_,hP.join (by omega) (by omega) u2<|hct.1 h,λp hp=>List.mem_append_left _ hp,λ_=>by simp⟩
     ·rintro up'⟨r',E',hP',hsub,hij⟩;refine WV hri<|WV hrj ?_
      dsimp only
      by_cases hx:s[k - 1].Xs[2*t+1]<s[k].Xs[2*u+1]
      ·rw[bS hx,aP];refine IT (x:=(((i+1:Nat):Int),((j:Nat):Int))) (by rw[bF (by omega)])<|W8 ⟨⟨i+1,j,rfl,rfl,by omega,by omega,j1,j2,r',E',hP',λq hq i j q1 q2 ht=>hsub _<|hE q hq i j q1 q2 ht,λi' j' g1 g2 g3 g4 g5 ht=>?_⟩,by simp only[cK];omega⟩
       by_cases h5:i'<i\/j'<j
       ·exact hsub _<|hE2 i' j' g1 g2 g3 g4 h5 ht
       ·have:i'=i:=by omega
        subst this
        by_cases h6:j'=j
        ·subst h6;exact hij ht
        ·exfalso;obtain⟨a,c,ha,hc',_,_,h'⟩:=ht;rw[hri]at ha;injection ha with ha;subst ha
         have:=farJ j' c (by omega) g4 hc';dsimp only at h';omega
      ·rw[cA hx,aR];refine IT (x:=(((i:Nat):Int),((j+1:Nat):Int))) (by rw[bF (by omega)])<|W8 ⟨⟨i,j+1,rfl,rfl,i1,i2,by omega,by omega,r',E',hP',λq hq i j q1 q2 ht=>hsub _<|hE q hq i j q1 q2 ht,λi' j' g1 g2 g3 g4 g5 ht=>?_⟩,by simp only[cK];omega⟩
       by_cases h5:i'<i\/j'<j
       ·exact hsub _<|hE2 i' j' g1 g2 g3 g4 h5 ht
       ·have:j'=j:=by omega
        subst this
        by_cases h6:i'=i
        ·subst h6;exact hij ht
        ·exfalso;obtain⟨a,c,ha,hc',_,h',_⟩:=ht;rw[hrj]at hc';injection hc' with hc';subst hc'
         have:=farI i' a (by omega) g2 ha;dsimp only at h';omega
    ·refine⟨r,E,hP,λq hq i' j' q1 q2 ht=>?_⟩
     by_cases hqk:q<k
     ·exact hE q hqk i' j' q1 q2 ht
     ·have:q=k:=by omega
      subst this;obtain⟨_,_,g1,g2⟩:=Kk hc hk q1 q2 ht;refine hE2 i' j' g1 g2 q1 q2 ?_ ht;rw[Bool.and_eq_false_iff,decide_eq_false_iff_not,decide_eq_false_iff_not]at h;omega
   ·exact⟨kK s<|k - 1,kK s k,rfl,rfl,cJ _,Dz (by omega),cJ _,Dz (by omega),r,E,hP,hE,λi' j' g1 g2 g3 g4 g5=>by omega⟩
  ·by_cases hqk:q<k
   ·exact hE q hqk i j q1 q2 ht
   ·have:q=k:=by omega
    subst this;obtain⟨g0,g1,_⟩:=Kk hc hk q1 q2 ht;rw[hcc.2 ⟨g0,g1⟩]at h;cases h
 ·rintro⟨up,a,b⟩⟨_,_,r,E,hP,hE⟩;dsimp only at hP ⊢;have hEq:∀i j,C9 (bA s) i j->(i,j)∈E:=λi j ht=>by
   have hjl:j<(bA s).length:=by obtain⟨a,c,_,hb,_⟩:=ht;exact(bR.1 hb).1
   obtain⟨q,hq,q1,q2⟩:=MM hjl;exact hE q hq i j q1 q2 ht
  have hJ:Joined (bA s) r:=⟨by rw[hn];exact hP.uf.le,by rw[hn];exact hP.uf.rr,λi j ht=>hP.co (i,j) (hEq i j ht),λS hS i j hi hj=>by
   rw[hn]at hi hj
   exact hP.fi S (λp hp=>hS p.1 p.2 (hP.so p hp)) i j hi hj⟩
  refine WO (XM (λk st=>UF n st.1 r/\Wd k r st.2.1/\st.2.2=(bV k r).map (pj (bA s) k r)) (by omega) ⟨hP.uf,⟨λj k hj=>by simp[bV]at hj,λk=>rfl⟩,rfl⟩<|λk st hk hI=>?_) ?_
  ·obtain⟨l,m,ls⟩:=st;obtain⟨hu,⟨hm1,hm2⟩,hs⟩:=hI;dsimp only at hu hm1 hm2 hs ⊢;subst hs;have hkx:(bA s)[k]? =some ((bA s)[k]'(by omega)):=aM (by omega);refine WV hkx ?_;obtain⟨u',a1,a2⟩:=IE (N:=N) hu hk (by omega);refine IT a1 ?_;dsimp only;have hhl:=me k r;have hrk:=hP.uf.le k hk;have hrr:=hP.uf.rr k hk;have hcl:=F1 (bA s) k r<|r k
   have hmap:((bV k r).map<|pj (bA s) k r).length=(bV k r).length:=by simp
   rw[hm2]
   by_cases e:r k=k
   ·have hnot:r k∉bV k r:=λh=>by have:=(iN.1 h).1;omega
    refine IT (x:=(tj m ((r k:Nat):Int) (((bV k r).length:Nat):Int),(bV k r).map (pj (bA s) k r)++[([]:Z aG)],(((bV k r).length:Nat):Int))) ?_ ?_
    ·rw[cA hnot,ka,aP,j4 (by simp;omega),aB,hmap]
    ·dsimp only;have hi:((bV k r).map (pj (bA s) k r)++[([]:Z aG)])[(bV k r).length]? =some []:=by rw[<-hmap,ku<|cJ _,Nat.sub_self];rfl
     refine WV hi<|XC (by simp)<|WV hi<|IS ⟨a2,⟨λj q hj=>?_,λq=>?_⟩,?_⟩
     ·dsimp only;rw[iA,aF e]at hj;rw[md]
      by_cases e2:j<(bV k r).length
      ·rw[kM e2]at hj;have:=(iN.1<|gh hj).1;rw[aH (by omega)];exact hm1 j q hj
      ·rw[ku (by omega)]at hj;have hj0:j -(bV k r).length=0:=by
        have:=(bR.1 hj).1;simp at this;omega
       rw[hj0]at hj;simp at hj;subst hj;rw[aF (by rw[e])];congr 1;omega
     ·dsimp only;rw[pO,hm2,iA,aF e,jd];rw[jc,dF,dF,dF,dJ,mg,e];constructor
      ·rintro(h|h)
       ·exact .inr (by omega)
       ·exact .inl h
      ·rintro(h|h)
       ·exact .inr h
       ·exact .inl (by omega)
     ·dsimp only;rw[cK,<-hmap,List.set_append_right _ _<|cJ _,Nat.sub_self,iA,aF e,fH];congr 1
      ·apply List.map_congr_left;intro a ha;have:=(iN.1 ha).1;rw[Ak a hkx,aH (by omega)]
      ·simp only[List.set_cons_zero,eW,List.map_nil,List.nil_append];rw[Ak k hkx,aF e];have:pj (bA s) k r k= []:=by unfold pj;rw[ML (λi hi=>hP.uf.le i (by omega))<|cJ _];rfl
       rw[this];rfl
   ·have hh:r k∈bV k r:=iN.2 ⟨by omega,hrr⟩;obtain⟨j,hj⟩:=eE hh;refine IT (x:=(m,(bV k r).map<|pj (bA s) k r,((j:Nat):Int))) ?_ ?_
    ·rw[bS hh,lq,aR,hm1 j (r k) hj]
    ·dsimp only;have hi:((bV k r).map<|pj (bA s) k r)[j]? =some (pj (bA s) k r<|r k):=by rw[iE,hj];rfl
     refine WV hi<|XC (by simp;omega)<|WV hi<|IS ⟨a2,⟨λj' q hj'=>?_,λq=>?_⟩,?_⟩
     ·rw[iA,aH e]at hj';exact hm1 j' q hj'
     ·rw[iA,aH e];exact hm2 q
     ·dsimp only;rw[cK,iA,aH e]
      have:=zJ (pj (bA s) k r) (pj (bA s) (k+1) r) (bV k r) j (r k) (nb k r) hj (λb hb hne=>by
       rw[Ak b hkx,aH (λh=>hne h.symm)])
      rw[Ak (r k) hkx,aF rfl]at this;exact this
  ·rintro⟨l,m,ls⟩⟨_,_,hs⟩;dsimp only at hs ⊢;subst hs;have hhl:=me n r;refine WO (XM (λk ps=>ps.length=k/\∀(j h:Nat)(p:Z aA),j<k->(bV n r)[j]? =some h->ps[j]? =some p->vm (pj (bA s) n r h) p) (by simp;omega) ⟨rfl,λj h p hj=>by omega⟩<|λk ps hk hI=>?_) ?_
   ·obtain⟨hp1,hp2⟩:=hI;have hk':k<(bV n r).length:=by simpa using hk
    refine WV (x:=pj (bA s) n r (bV n r)[k]) (by rw[iE,aM hk'];rfl) ?_;have hcl:=F1 (bA s) n r (bV n r)[k];refine WO (sP (N:=N) (by omega) (λx hx=>?_) (by omega)) ?_
    ·obtain⟨i,_,_,h⟩:=m6.1 hx;exact(hok x<|gh h).1
    ·intro p hp;refine XC (by rw[hp1];simp;omega)<|IS ⟨by simp[hp1],λj h q hj hh hq=>?_⟩
     by_cases hjk:j<k
     ·rw[kM (by omega)]at hq;exact hp2 j h q hjk hh hq
     ·have:j=k:=by omega
      subst this;rw[ku (by omega),hp1,Nat.sub_self]at hq;simp at hq;subst hq;rw[aM hk']at hh;injection hh with hh;subst hh
      exact hp
   ·rintro ps⟨hp1,hp2⟩;refine IS ⟨r,hJ,?_,λj h p hh hp=>?_⟩
    ·rw[hp1,hn];simp
    ·rw[hn]at hh ⊢;exact hp2 j h p (by have:=(bR.1 hp).1;omega) hh hp
end
section
variable {N:Nat}
theorem sg{n:Int}(h: -9223372036854775808<=n/\n<=9223372036854775807):wrap .i64 n=n:=by grind [IntKind.wrap_i64]
def ij(n lo hi:Int):Bool:=decide (n>=lo)&&decide (n<=hi)
def sI(n:Int):Bool:=ij n (-1000000) 1000000
def vo(p:dW):Bool:=sI p.X&&sI p.Y
def dO(r:aG):Bool:=sI r.X0&&(sI r.Y0&&(sI r.X1&&sI r.Y1))
theorem Kl(n:Int):ni N n=some (sI n):=rfl
theorem D6(p:dW):ly N p=some (vo p):=by
 unfold ly vo
 grind [Kl,aB]
theorem D7(p:dW):gS N p=some (vo p):=by
 have e:∀n,dH N n=some (sI n):=λ_=>rfl;unfold gS vo
 grind
theorem F2(r:aG):pB N r=some (dO r):=by
 unfold pB dO
 grind [Kl,aB]
theorem Km{a b:Int}(h:a≠b):ji (N+4) [a,b]=some [a,b]:=by
 have e:(b==a)=false:=by grind
 have w1:wrap .i64 ((1:Int) - 1)=0:=by decide
 have w2:wrap .i64 ((1:Int)+1)=2:=by decide
 unfold ji;have e1:idx [a,b] 1=some b:=rfl;have e2:idx [a,b] 0=some a:=rfl;have l2:(([a,b]:Z Int).length:Int)=2:=rfl;rw[l2,show decide ((2:Int)<2)=false by decide,aR];rw[iD.eq_def];dsimp only;rw[show decide ((1:Int)<2)=true by decide,aP,e1,aB,w1,e2,aB,e,aR,aB,w2];dsimp only;rw[iD.eq_def];dsimp only;rw[show decide ((2:Int)<2)=false by decide,aR,aB];rfl
theorem RB(x:Int):wrap .i64 (x - x)=0:=by rw[Int.sub_self];decide
theorem Nv{r:aG}(hx:r.X0<r.X1)(hy:r.Y0<r.Y1):jq (N+16) [r]=some [⟨r.Y0,r.Y1,[r.X0,r.X1]⟩]:=by
 have s1:B9 (lI<|N+16) [r]=some [r]:=HB (by unfold lI;rw[RB]);have s2:B9 (jk<|N+16) [r]=some [r]:=HB (by unfold jk;rw[RB]);have s3:y6 [r.Y0,r.Y1]=some [r.Y0,r.Y1]:=G3 (by simp;omega) (by simp);have c1:kO (N+16) [r]=some [r]:=rfl;have f1:∀φ,jU (N+16) [] φ=some []:=λφ=>rfl;have st:kX (N+16) [r]=some ([r.X0,r.X1],[r]):=by
  unfold kX;rw[s2,aB];rfl
 have pu:∀b:aA,b.Xs= [r.X0,r.X1]->b.Y0<b.Y1->kE (N+16) [] b=some [b]:=λb h1 h2=>by
  unfold kE;rw[h1,cA (show ¬b.Y1<=b.Y0 by omega)];rfl
 unfold jq;rw[c1,aB,s1,aB];have ys:kL ([r]:Z aG).length (λ(k35:Nat)(s36:Z Int)=>((idx [r] (k35:Int)).bind λx54=>(app 8 s36 ([x54.Y0,x54.Y1]:Z Int)).bind λx58=>some x58:aT (Z Int))) ([]:Z Int)=some [r.Y0,r.Y1]:=rfl;rw[ys,aB,s3,aB,Km (N:=N+12) (by omega),aB];have l2:(([r.Y0,r.Y1]:Z Int).length:Int)=2:=rfl;have l1:(([r]:Z aG).length:Int)=1:=rfl;have w1:wrap .i64 ((0:Int)+1)=1:=by decide
 have w2:wrap .i64 ((1:Int)+1)=2:=by decide
 have i0:idx [r.Y0,r.Y1] 0=some r.Y0:=rfl;have i1:idx [r.Y0,r.Y1] 1=some r.Y1:=rfl;have j0:idx [r] 0=some r:=rfl;have a1:app 32 ([]:Z aG) [r]=some [r]:=rfl;rw[l2,l1];rw[iD.eq_def];dsimp only;rw[w1,show decide ((1:Int)<2)=true by decide,aP,f1,aB];rw[iD.eq_def];dsimp only;rw[show decide ((0:Int)<1)=true by decide,aP,j0,aB,i0,aB,aB,show decide (r.Y0<=r.Y0)=true by simp,aP,aB,a1,aB,w1,aB];dsimp only;rw[iD.eq_def];dsimp only;rw[show decide ((1:Int)<1)=false by decide,aR,aB,aR,aB,aB];unfold Fo.cs;dsimp only;rw[aB,i1,aB,st,aB,pu _ rfl hy,aB,aB];dsimp only;rw[iD.eq_def];dsimp only;rw[w2,show decide ((2:Int)<2)=false by decide,aR,aB];rfl
theorem OY{r:aG}(hx:r.X0<r.X1):oN N [⟨r.Y0,r.Y1,[r.X0,r.X1]⟩]=some (dO r):=by
 have ar:pD N [⟨r.Y0,r.Y1,[r.X0,r.X1]⟩]=some r:=by
  have e1:(if r.X0<r.X0 then r.X0 else r.X0)=r.X0:=by split <;> rfl
  have e2:(if r.X1<r.X1 then r.X1 else r.X1)=r.X1:=by split <;> rfl
  show some ({X0:=(if r.X0<r.X0 then r.X0 else r.X0),Y0:=r.Y0,X1:=(if r.X1<r.X1 then r.X1 else r.X1),Y1:=r.Y1}:aG)=some r;rw[e1,e2]
 grind [oN,aB,F2]
def zK(b:bU):aG:=⟨b.At.X - b.eJ / 2,b.At.Y - b.eJ / 2,b.At.X - b.eJ / 2+b.eJ,b.At.Y - b.eJ / 2+b.eJ⟩
def t8(b:bU):Bool:=ij b.eJ 1 10000&&vo b.At
def oG(b:bU):aG×Int:=if t8 b&&dO (zK b)then(zK b,0)else(⟨0,0,0,0⟩,1)
theorem vY{b:bU}(h:t8 b=true):(1<=b.eJ/\b.eJ<=10000)/\(-1000000<=b.At.X/\b.At.X<=1000000)/\(-1000000<=b.At.Y/\b.At.Y<=1000000):=by
 simp only[t8,ij,vo,sI,dB,decide_eq_true_iff]at h;omega
theorem po{b:bU}(h:t8 b=true):iC N b=some (zK b):=by
 obtain⟨h1,h2,h3⟩:=vY h;have t:Int.tdiv b.eJ 2=b.eJ / 2:=Int.tdiv_eq_ediv_of_nonneg (by omega);unfold iC zK
 grind [sg]
theorem DA{b:bU}:nV (N+16) b=some (oG b):=by
 have e0:jQ (N+16) b.eJ 1 10000=some (ij b.eJ 1 10000):=rfl;have e1:(bif(!(ij b.eJ 1 10000))then some true else some (!(vo b.At)))=some (!t8 b):=by unfold t8;cases ij b.eJ 1 10000 <;> rfl
 unfold nV oG;rw[e0,aB,D6,aB,e1,aB]
 cases hf:t8 b with
 |false=>rfl
 |true=>
  obtain⟨h1,h2,h3⟩:=vY hf;have hx:(zK b).X0<(zK b).X1:=by simp only[zK];omega
  have hy:(zK b).Y0<(zK b).Y1:=by simp only[zK];omega
  rw[lq,aR,po hf,aB,Nv hx hy,aB,OY hx,aB]
  cases dO (zK b) <;> rfl
end
section
variable {N:Nat}
def Kn(c:UInt8):Bool:=
 (((decide ((c.toNat:Int)<65)||decide ((c.toNat:Int)>90))&&(decide ((c.toNat:Int)<97)||decide ((c.toNat:Int)>122)))&&(decide ((c.toNat:Int)<48)||decide ((c.toNat:Int)>57)))&&decide (Lib.indexByte [95,43,45,35] c<0)
def isWord(s:eU):Bool:= !s.dV.any Kn&&(decide (1<=s.dV.length)&&decide (s.dV.length<=40))
theorem yd(s:eU)(c:UInt8):iS N s (c.toNat:Int)=some (Lib.indexByte s.dV c):=by
 show some (Lib.indexByte s.dV (Int.toNat (c.toNat:Int)).toUInt8)=_;simp
theorem LM{R:Type}(b1:Bool)(c:UInt8)(r:R):
  ((bif b1 then((iS N (⟨[95,43,45,35]⟩) (c.toNat:Int)).bind λx14=>some<|decide<|x14<0)else some false).bind λs12=>bif s12 then some (.rt r)else(some<|.nx ()):aT (Fl Unit R))=some (if(b1&&decide (Lib.indexByte [95,43,45,35] c<0))=true then .rt r else .nx ()):=by
 rw[yd,aB]
 grind
theorem vZ{s:eU}(h:s.dV.length<=2097152):kF N s=some (isWord s):=by
 unfold kF
 rw[Qk Kn false (by omega) (λk x hx=>by
  have hk:=(bR.1 hx).1;have e:Le s ((k:Nat):Int)=some x:=by grind [J8,aM]
  rw[e,aB]
  exact LM (R:=Bool) _ x false),aB]
 unfold isWord
 grind [Kn,Fo.cs,ka,Bool.false_eq_true,Option.some.injEq]
def cutAt(c:UInt8):Z UInt8->Z (Z UInt8)
 | []=>[[]]
 |b::l=>if b==c then []::cutAt c l else match cutAt c l with|h::t=>(b::h)::t| []=>[[b]]
theorem F3{c:UInt8}:∀{l:Z UInt8},c∉l->cutAt c l= [l]
 | [],_=>rfl
 |b::l,h=>by
  unfold cutAt;have hb:(b==c)=false:=by rw[beq_eq_false_iff_ne];rintro rfl;exact h (by simp)
  rw[hb,F3<|λh'=>h (by simp[h'])];rfl
theorem Ko{c:UInt8}:∀{a b:Z UInt8},c∉a->cutAt c (a++c::b)=a::cutAt c b
 | [],b,_=>by rw[List.nil_append];show(if(c==c)=true then _ else _)=_;simp
 |x::a,b,h=>by
  have hb:(x==c)=false:=by rw[beq_eq_false_iff_ne];rintro rfl;exact h (by simp)
  have ih:=Ko (c:=c) (a:=a) (b:=b)<|λh'=>h (by simp[h'])
  show(if(x==c)=true then []::cutAt c (a++c::b)else match cutAt c (a++c::b)with|h::t=>(x::h)::t| []=>[[x]])=_;rw[hb,ih];rfl
theorem zL:∀(l:Z UInt8)(c:UInt8),(Lib.indexByte l c = -1/\c∉l)\/∃a b,l=a++c::b/\c∉a/\Lib.indexByte l c=((a.length:Nat):Int)
 | [],c=> .inl ⟨rfl,by simp⟩
 |x::l,c=>by
  unfold Lib.indexByte
  by_cases hx:x=c
  ·subst hx;exact .inr ⟨[],l,rfl,by simp,by simp⟩
  ·have hb:(x==c)=false:=by rw[beq_eq_false_iff_ne];exact hx
   rcases zL l c with⟨h1,h2⟩|⟨a,b,h1,h2,h3⟩
   ·left;rw[hb,h1];refine⟨by simp,?_⟩;simp[h2];exact λh=>hx h.symm
   ·right;refine⟨x::a,b,by rw[h1];rfl,by grind,?_⟩;rw[hb,h3];have:(((a.length:Nat):Int)== -1)=false:=by rw[beq_eq_false_iff_ne];omega
    rw[this];simp
theorem OZ(s:eU)(c:UInt8):nW N s ⟨[c]⟩=some (Lib.indexByte s.dV c):=by
 show(mn N s ⟨[c]⟩).bind _=_;unfold mn
 by_cases h:eU.wF ⟨[c]⟩ s=true
 ·grind [Cu,Lib.indexByte]
 ·rw[ot]at h;rw[h];show((kc N s (c.toNat:Int)).bind _).bind _=_;have:=yd (N:=N) s c
  grind [iS]
theorem O0(s:eU)(c:UInt8):qg N s ⟨[c]⟩=some ((s.dV.count c:Nat):Int):=by
 unfold qg;show(some _:aT Int)=_;simp[Lib.countByte]
theorem Nw{s:eU}{k:Nat}(h:k<=s.dV.length):Bn s 0 (k:Int)=some ⟨s.dV.take k⟩:=by
 unfold Bn;grind
theorem Ny{s:eU}{k:Nat}(h:k<=s.dV.length):Bn s (k:Int) (s.dV.length:Int)=some ⟨s.dV.drop k⟩:=by
 grind [Bn,cK,nc,mJ]
def qR(s:eU)(c:UInt8):Z eU:=(cutAt c s.dV).map eU.mk
theorem Kp{s:eU}(c:UInt8)(h:s.dV.length<=2097152)(hN:4194304<=N):nX N s ⟨[c]⟩=some (qR s c):=by
 have hc:s.dV.count c<=s.dV.length:=List.count_le_length;unfold nX pE;rw[show((-1:Int)==0)=false by decide,aR,show eU.wF ⟨[c]⟩ ⟨[]⟩=false by simp[eU.wF],aR,O0,aB];rw[gC (x:=((s.dV.count c:Nat):Int)+1) (by omega) (by omega),show decide ((-1:Int)<0)=true by decide,aP,aB];rw[gC (x:=(s.dV.length:Int)+1) (by omega) (by omega)];have e1:(if(s.dV.length:Int)+1<((s.dV.count c:Nat):Int)+1 then(s.dV.length:Int)+1 else((s.dV.count c:Nat):Int)+1)=((s.dV.count c+1:Nat):Int):=by
  omega
 rw[e1,oC _ (by omega),aB];rw[gC (x:=((s.dV.count c+1:Nat):Int) - 1) (by omega) (by omega)];have key:=Ct (S:=eU×Z eU×Int) (R:=Empty) (body:=(λ(s7:eU×Z eU×Int)=>(bif decide (s7.2.2<((s.dV.count c+1:Nat):Int) - 1)then((nW N s7.1 ⟨[c]⟩).bind λx23=>bif x23<0 then some (.br (s7.1,s7.2.1,s7.2.2))else((Bn s7.1 0<|wrap .i64<|x23+0).bind λx24=>(idx s7.2.1 s7.2.2).bind λx25=>(Bn s7.1 (wrap .i64<|x23+(((⟨[c]⟩:eU).dV.length:Nat):Int)) ((s7.1.dV.length:Nat):Int)).bind λx27=>some<|.nx (x27,s7.2.1.set (Int.toNat s7.2.2) x24,wrap .i64<|s7.2.2+1)))else(some<|.br (s7.1,s7.2.1,s7.2.2)):aT (Fl (eU×Z eU×Int) Empty))))
  (λst=>∃ws:Z (Z UInt8),st.2.2=(ws.length:Int)/\cutAt c s.dV=ws++cutAt c st.1.dV/\ws.length+st.1.dV.count c=s.dV.count c/\st.1.dV.length<=s.dV.length/\st.2.1=ws.map eU.mk++List.replicate (s.dV.count c+1 - ws.length) ⟨[]⟩)
  (λst=>s.dV.count c+1 - st.2.2.toNat)
  (λst=>∃ws:Z (Z UInt8),st.2.2=(ws.length:Int)/\cutAt c s.dV=ws++[st.1.dV]/\ws.length=s.dV.count c/\st.2.1=ws.map eU.mk++[⟨[]⟩])
  (λ_=>True) (by
   rintro⟨r,arr,i⟩⟨ws,h1,h2,h3,h4,h5⟩;simp only at h1 h2 h3 h4 h5;subst h1 h5
   by_cases hlt:ws.length<s.dV.count c
   ·have hd:decide ((ws.length:Int)<((s.dV.count c+1:Nat):Int) - 1)=true:=by grind
    simp only[hd,aP,OZ,aB]
    rcases zL r.dV c with⟨_,hn⟩|⟨a,b,hr,ha,hi⟩
    ·grind
    ·have hrl:r.dV.length=a.length+(b.length+1):=by rw[hr];simp
     rw[hi,cA (by omega),aR];rw[show(a.length:Int)+0=(a.length:Int)by omega,gC (x:=(a.length:Int)) (by omega) (by omega),Nw (by omega),aB];rw[nu _ _ (by simp;omega),aB];rw[show(a.length:Int)+(((⟨[c]⟩:eU).dV.length:Nat):Int)=((a.length+1:Nat):Int)by simp,gC (x:=((a.length+1:Nat):Int)) (by omega) (by omega),Ny (by omega),aB];refine⟨_,rfl,⟨ws++[a],?_,?_,?_,?_,?_⟩,?_⟩
     ·grind [gC]
     ·simp_all[Ko]
     ·simp only;rw[hr]at h3 ⊢;simp[List.count_eq_zero_of_not_mem ha]at h3 ⊢;omega
     ·simp;omega
     ·simp only[cK];rw[List.set_append_right _ _ (by simp)];simp only[dQ,Nat.sub_self];obtain⟨d,hd'⟩:∃d,s.dV.count c+1 - ws.length=d+1:=⟨s.dV.count c - ws.length,by omega⟩;rw[hd',List.replicate_succ,List.set_cons_zero,show s.dV.count c+1 -(ws++[a]).length=d by simp;omega];simp[hr]
     ·simp only;rw[gC (by omega) (by omega)];omega
   ·have hd:decide ((ws.length:Int)<((s.dV.count c+1:Nat):Int) - 1)=false:=by rw[decide_eq_false_iff_not];omega
    simp only[hd,aR];refine⟨_,rfl,ws,rfl,?_,by omega,?_⟩
    ·have h0:r.dV.count c=0:=by omega
     rw[h2,F3<|List.count_eq_zero.1 h0]
    ·rw[show s.dV.count c+1 - ws.length=1 by omega];rfl)
  N (s,List.replicate (s.dV.count c+1) ⟨[]⟩,0) ⟨[],rfl,rfl,by simp,cJ _,by simp⟩ (by simp only;omega)
 obtain⟨o,ho,hgo⟩:=key;rw[ho,aB]
 cases o with
 |rt r=>exact r.elim
 |go st=>
  obtain⟨r,arr,i⟩:=st;obtain⟨ws,h1,h2,h3,h4⟩:=hgo;simp only at h1 h2 h3 h4;subst h1 h4;simp only[Fo.cs];rw[nu _ _ (by simp),aB,gC (by omega) (by omega)];rw[show(ws.length:Int)+1=((ws.length+1:Nat):Int)by omega,tv _ _ (by simp),aB,aB];unfold qR;rw[h2];rw[cK,List.set_append_right _ _ (by simp),nc (by simp)];simp
def qc(s:eU):Bool:=decide (s.dV.length<=200)&&(qR s 47).all isWord
theorem Al{c:UInt8}:∀{l x:Z UInt8},x∈cutAt c l->x.length<=l.length
 | [],x,h=>by simp[cutAt]at h;subst h;simp
 |b::l,x,h=>by
  unfold cutAt at h;split at h
  ·rcases fp.1 h with h|h
   ·subst h;simp
   ·have:=Al h;simp;omega
  ·split at h
   ·rename_i t e
    rcases fp.1 h with h|h
    ·subst h;have:=Al (c:=c) (l:=l) (by rw[e];exact xC);simp;omega
    ·have:=Al (c:=c) (l:=l) (by rw[e];exact ja _ h);simp;omega
   ·simp at h;subst h;simp
theorem HH(c:UInt8):∀(l:Z UInt8),(cutAt c l).length<=l.length+1
 | []=>by simp[cutAt]
 |b::l=>by
  have:=HH c l;unfold cutAt;split
  ·simp;omega
  ·split
   ·rename_i e;rw[e]at this;simp at this ⊢;omega
   ·simp
theorem HI{s x:eU}{c:UInt8}(h:x∈qR s c):x.dV.length<=s.dV.length:=by
 obtain⟨y,hy,rfl⟩:=dN.1 h;exact Al hy
theorem HJ(s:eU)(c:UInt8):(qR s c).length<=s.dV.length+1:=by simp[qR,dQ,HH]
theorem CM{s:eU}(h:s.dV.length<=2097152)(hN:4194304<=N):oO N s=some (qc s):=by
 unfold oO qc
 by_cases hl:s.dV.length<=200
 ·rw[bS (by omega),aP,Kp 47 h hN,aB]
  have e:=wT (l:=qR s 47) (φ:=jW N) (λx=> !isWord x) (by have:=HJ s 47;omega) (λx hx=>by
   unfold jW
   rw[vZ (by have:=HI hx;omega)];rfl)
  have e2:jV N (qR s 47) (jW N)=wk (qR s 47) (jW N):=rfl;rw[e2,e,aB,aB,bS hl,Bool.true_and];congr 1;rw[jd];simp
 ·rw[cA (by omega),aR,aB,cA hl,Bool.false_and]
end
end Go.Gk
namespace Go.Gk
open Go IntKind Classical
section
variable {N:Nat}
theorem O1{a b:aA}(h:cR a=cR b):a=b:=by cases a;simp_all[cR]
theorem CN:∀{s t:Z aA},s.map cR=t.map cR->s=t
 | [],[],_=>rfl
 | [],_::_,h=>by cases h
 |_::_,[],h=>by cases h
 |a::s,b::t,h=>by
  rw[eW,eW]at h;injection h with h1 h2
  rw[O1 h1,CN h2]
theorem Kq{s t:Z aA}(hs:fY (s.map cR))(ht:fY (t.map cR))(h:∀x y,yW (s.map cR) x y=yW (t.map cR) x y):s=t:=CN<|yb hs ht h
theorem vm.unique{l:Z aG}{s t:Z aA}(hs:vm l s)(ht:vm l t):s=t:=Kq hs.can ht.can λx y=>by rw[hs.cover,ht.cover]
theorem vm.Kr{l:Z aG}{s:Z aA}(h:vm l s):s.length<=2*l.length/\(∀b∈s,b.Xs.length<=2*l.length)/\(bA s).length<=2*l.length*(2*l.length):=by
 have h1:s.length<=2*l.length:=by have:=h.FQ.len h.can;grind [dQ,nQ]
 have h2:∀b∈s,b.Xs.length<=2*l.length:=λb hb=>by
  have:=h.FQ.row h.can (b:=cR b)<|dN.2 ⟨b,hb,rfl⟩
  rwa[vl]at this
 simp_all[FU]
theorem Nz{n:Int}(h:sI n=true): -1000000<=n/\n<=1000000:=by
 unfold sI ij at h
 grind
theorem jI{r:aG}(h:dO r=true):(-1000000<=r.X0/\r.X0<=1000000)/\(-1000000<=r.Y0/\r.Y0<=1000000)/\(-1000000<=r.X1/\r.X1<=1000000)/\(-1000000<=r.Y1/\r.Y1<=1000000):=by
 unfold dO at h
 simp_all[dB,Nz]
theorem F4{r:aG}(h:(-1000000<=r.X0/\r.X0<=1000000)/\(-1000000<=r.Y0/\r.Y0<=1000000)/\(-1000000<=r.X1/\r.X1<=1000000)/\(-1000000<=r.Y1/\r.Y1<=1000000)):dO r=true:=by
 unfold dO sI ij
 grind
theorem IG{r:aG}(h:dO r=true)(hx:r.X0<r.X1)(hy:r.Y0<r.Y1):GK r:=by
 have:=jI h;refine⟨hx,hy,?_,?_,?_,?_⟩ <;> unfold small <;> omega
def nC(r:aG):aT Int:=if dO r=true then(if r.X1<=r.X0\/r.Y1<=r.Y0 then some 13 else none)else some 1
def nR(l:Z aG):Int:=if 2000<l.length then 2 else(l.findSome? nC).getD 0
theorem G5{l:Z aG}(hl:l.length<=4611686018427387904):mN N l=some (nR l):=by
 unfold mN nR
 by_cases h:2000<l.length
 ·grind
 ·rw[cA (by omega),aR,aH h,Cv nC hl (λk x hx=>by
   rw[cB hx,aB,F2,aB];unfold nC
   cases hr:dO x with
   |false=>rfl
   |true=>
    rw[lq,aR,aF rfl]
    by_cases h2:x.X1<=x.X0\/x.Y1<=x.Y0
    ·rw[aF h2,show(decide (x.X1<=x.X0)||decide (x.Y1<=x.Y0))=true by grind];rfl
    ·rw[aH h2,show(decide (x.X1<=x.X0)||decide (x.Y1<=x.Y0))=false by grind];rfl),aB]
  cases l.findSome? nC <;> rfl
theorem CO{r:aG}:nC r=none↔dO r=true/\r.X0<r.X1/\r.Y0<r.Y1:=by
 grind [nC]
theorem Ks{r:aG}{e:Int}(h:nC r=some e):e≠0:=by
 grind [nC]
theorem wB{l:Z aG}:nR l=0↔l.length<=2000/\∀r∈l,dO r=true/\r.X0<r.X1/\r.Y0<r.Y1:=by
 unfold nR
 by_cases h:2000<l.length
 ·omega
 ·rw[aH h]
  cases hf:l.findSome? nC with
  |none=>
   grind [List.findSome?_eq_none_iff,CO]
  |some e=>
   obtain⟨r,hr,he⟩:=List.exists_of_findSome?_eq_some hf
   grind [Ks,CO]
def SP(l:Z aG):Prop:=∀(k:Nat)a b,l[k]? =some a->l[k+1]? =some b->¬(b.Y0<a.Y0\/(b.Y0=a.Y0/\b.X0<=a.X0))
def IH(l:Z aG):Prop:=∃s,vm l s/\bA s=l
noncomputable def kp(l:Z aG):Int:=if nR l≠0 then nR l else if SP l then(if IH l then 0 else 3)else 8
theorem F5{l:Z aG}(h:nR l=0):l.length<=2000/\∀r∈l,GK r:=by grind [wB,IG]
theorem LN{l m:Z aG}(hl:l.length<=4611686018427387904):ml N l m=some (decide<|l=m):=by
 have:=Ac (l:=l) (m:=m) hl
 grind [LC,ml,decide,instDecidableEqList]
theorem zM{l:Z aG}(hl:l.length<=1073741824)(hN:ns N):kP N l=some (kp l):=by
 refine XL ?_;unfold kP;refine IT (G5 (by omega)) ?_;unfold kp;refine Xn (λh=>IS ?_)<|λh=>?_
 ·grind
 ·have h0:nR l=0:=by simpa using h
  rw[aH (by omega)];obtain⟨hlen,hok⟩:=F5 h0;refine WO (X2 (Go:=λ_=>SP l) (Rt:=λr=>r=8/\¬SP l) (λs=>∃k:Nat,s=(k:Int)/\1<=k/\∀(j:Nat)a b,j+1<k->l[j]? =some a->l[j+1]? =some b->¬(b.Y0<a.Y0\/(b.Y0=a.Y0/\b.X0<=a.X0))) (λs=>l.length - s.toNat) ?_ ⟨1,rfl,cJ _,λj a b hj=>by omega⟩ (by simp;omega)) ?_
  ·rintro s⟨k,rfl,hk,hI⟩;refine Xn (λh=>?_)<|λh=>Xd λj a b ha hb=>hI j a b ?_ ha hb
   ·have hk2:k<l.length:=by grind
    rw[iL hk (by omega)];refine XN (by omega)<|XN hk2<|Xn (λhb=>XR ⟨rfl,λhu=>?_⟩)<|λhb=>W8 ⟨⟨k+1,by grind [bF],by omega,λj a b hj ha hb'=>?_⟩,by grind [bF,cK]⟩
    ·refine hu (k - 1) l[k - 1] l[k] (aM _) (by grind) ?_
     grind
    grind
   grind
  ·rintro o ho;refine Xf ho (λs hu=>?_)<|λr hr=>IS (by grind)
   rw[aF hu];refine WO (sP (N:=N) (by omega) hok (by omega)) ?_;intro s hs;obtain⟨z1,z2,z3⟩:=hs.Kr;have z4:2*l.length*(2*l.length)<=4000*4000:=Nat.mul_le_mul (by omega) (by omega);refine IT (FV (xm hs.can) (by omega) (λb hb=>by grind) (by omega))<|IT (LN (by omega)) ?_
   have hiff:IH l↔bA s=l:=⟨λ⟨t,h1,h2⟩=>by rw[hs.unique h1];exact h2,λh=>⟨s,hs,h⟩⟩
   grind [IS,bA]
theorem tG{l:Z aG}:kp l=0↔nR l=0/\SP l/\IH l:=by
 unfold kp
 grind
theorem BP(n lo hi:Int):jQ N n lo hi=some (ij n lo hi):=rfl
theorem NA{b:bU}(hN:16<=N):nV N b=some (oG b):=by
 have:=DA (N:=N - 16) (b:=b)
 grind
def nD(n:Nat)(b:bU):aT Int:=if(oG b).2≠0 then some (oG b).2 else if ij b.cO 0 ((n:Int) - 1)=true/\ij b.To b.cO ((n:Int) - 1)=true then none else some 1
def j6(a:gM):Int:=if 500<a.aN.length then 2 else(a.aN.findSome?<|nD a.aL.length).getD 0
theorem G6{a:gM}(h1:a.aL.length<=4611686018427387904)(h2:a.aN.length<=4611686018427387904)(hN:16<=N):mm N a=some (j6 a):=by
 unfold mm j6
 by_cases h:500<a.aN.length
 ·grind
 ·have hw:wrap .i64 ((a.aL.length:Int) - 1)=(a.aL.length:Int) - 1:=gC (by omega) (by omega)
  rw[cA (by omega),aR,aH h,Cv (nD a.aL.length) h2 (λk x hx=>by
   rw[cB hx,aB,NA hN,aB];unfold nD
   by_cases h0:(oG x).2=0
   ·rw[aH (by omega),h0,show((0:Int) != 0)=false by rfl,aR,hw,BP,aB,BP,aB]
    cases h3:ij x.cO 0 ((a.aL.length:Int) - 1) <;> cases h4:ij x.To x.cO ((a.aL.length:Int) - 1) <;> rfl
   ·rw[aF h0,show((oG x).2 != 0)=true by grind];rfl),aB]
  cases a.aN.findSome? (nD a.aL.length) <;> rfl
theorem Kt{b:bU}(h:(oG b).2=0):t8 b=true/\dO (zK b)=true:=by
 unfold oG at h
 grind
theorem n7{a:gM}(h:j6 a=0):a.aN.length<=500/\∀b∈a.aN,t8 b=true/\dO (zK b)=true/\0<=b.cO/\b.cO<=b.To/\b.To<((a.aL.length:Nat):Int):=by
 unfold j6 at h;split at h
 ·omega
 ·refine⟨by omega,λb hb=>?_⟩;have hn:nD a.aL.length b=none:=by
   cases hf:a.aN.findSome? (nD a.aL.length)with
   |none=>grind
   |some e=>
    rw[hf]at h;obtain⟨c,hc,he⟩:=List.exists_of_findSome?_eq_some hf
    grind [nD]
  unfold nD at hn;split at hn
  ·cases hn
  ·rename_i h0;split at hn
   ·rename_i h1;have h0:(oG b).2=0:=by omega
    have:=Kt h0;unfold ij at h1
    grind
   ·cases hn
theorem RD{b:bU}(h1:t8 b=true)(h2:dO (zK b)=true):GK (zK b):=by
 have hf:=vY h1;refine IG h2 ?_ ?_
 ·show b.At.X - b.eJ / 2<b.At.X - b.eJ / 2+b.eJ;omega
 ·show b.At.Y - b.eJ / 2<b.At.Y - b.eJ / 2+b.eJ;omega
def ik(p q:eG):Int:=if Lib.compareBytes p.Part.dV q.Part.dV≠0 then Lib.compareBytes p.Part.dV q.Part.dV else Lib.compareBytes p.eG.dV q.eG.dV
theorem qK(p q:eG):fC N p q=some (ik p q):=by
 unfold fC ik;show(bif Lib.compareBytes p.Part.dV q.Part.dV != 0 then _ else _)=_
 by_cases h:Lib.compareBytes p.Part.dV q.Part.dV=0
 ·rw[h,aH (by simp)];rfl
 ·rw[aF h,show(Lib.compareBytes p.Part.dV q.Part.dV != 0)=true by simpa using h];rfl
def lj(l:cX):eG:=⟨l.Part,l.eG⟩
theorem DB(l:cX):nj N l=some (lj l):=rfl
def lZ(a:gM)(k:Nat):aT Int:=(a.bO[k]?).bind λx=>
 if(qc x.Part&&isWord x.eG)=true then
  if(ij x.cM 0 ((a.aL.length:Int) - 1)&&vo x.At)=true then
   if 0<k/\(∃y,a.bO[k - 1]? =some y/\ik (lj x) (lj y)<=0)then some 8 else none
  else some 1
 else some 5
noncomputable def nS(a:gM):Int:=if 1000<a.bO.length then 2 else(rY a.bO.length<|lZ a).getD 0
end
end Go.Gk
