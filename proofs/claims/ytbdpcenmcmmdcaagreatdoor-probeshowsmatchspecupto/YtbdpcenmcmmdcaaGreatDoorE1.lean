/-
  Helping texts: plain functions and plain laws. No statement of the seed is proved here.
-/
import Derived.Test.YtbdpcenmcmmdcaaGreatDoorA1
import Derived.ChangeShapes
import Derived.ChangeSame
import Derived.Carry
import Derived.RowKit
import Derived.Test.YtbdpcenmcmmdcaaGreatDoorA2
set_option linter.unusedVariables false
set_option linter.unusedSimpArgs false
set_option linter.unusedSectionVars false
namespace Go.Gk
open Go IntKind
noncomputable section
structure aH where
 X0:Int
 Y0:Int
 X1:Int
 Y1:Int
 deriving DecidableEq,Inhabited
structure jX where
 X:Int
 Y:Int
 deriving DecidableEq,Inhabited
structure bR where
 At:jX
 dT:Int
 cR:Int
 To:Int
 eN:Bool
 deriving DecidableEq,Inhabited
structure cS where
 Part:eJ
 dQ:eJ
 dN:Int
 At:jX
 deriving DecidableEq,Inhabited
structure gQ where
 aK:List (List aH)
 cJ:List aH
 aN:List bR
 bJ:List cS
 deriving DecidableEq,Inhabited
structure dQ where
 Part:eJ
 dQ:eJ
 deriving DecidableEq,Inhabited
structure Test where
 A:dQ
 B:dQ
 Joined:Bool
 deriving DecidableEq,Inhabited
structure dK where
 bR:Bool
 Number:Int
 deriving DecidableEq,Inhabited
structure dX where
 Open:Bool
 dK:dK
 A:Int
 B:Int
 deriving DecidableEq,Inhabited
structure aA where
 Y0:Int
 Y1:Int
 Xs:List Int
 deriving DecidableEq,Inhabited
structure aF where
 dN:Int
 Set:List aA
 gU:List aH
 deriving DecidableEq,Inhabited
structure cF where
 kX:List Int
 aN:List Int
 gL:List dQ
 deriving DecidableEq,Inhabited
structure aD where
 from_:Int
 to:Int
 deriving DecidableEq,Inhabited
structure aO where
 from_:Int
 to:Int
 jY:List aD
 deriving DecidableEq,Inhabited
def vK(N:Nat)(p0 p1 p2:Int):Option Bool:=
 some (decide (p0>=p1)&&decide (p0<=p2))
def mA(N:Nat)(p0:Int):Option Bool:=
 (vK N p0 (-1000000) 1000000).bind λj=>some j
def oz(N:Nat)(p0:aH):Option Bool:=
 ((mA N p0.X0).bind λj=>bif j then((mA N p0.Y0).bind λo=>bif o then((mA N p0.X1).bind λaa=>bif aa then((mA N p0.Y1).bind λab=>some ab)else some false)else some false)else some false).bind λad=>some ad
def l9(N:Nat)(p0:List aH):Option Int:=
 bif decide ((p0.length:Int)>2000)then some 2 else((tL p0.length (λ(o:Nat)(aa:Unit)=>((idx p0 (o:Int)).bind λj=>(oz N j).bind λab=>bif(!ab)then some (.rt 1)else(bif decide (j.X1<=j.X0)||decide (j.Y1<=j.Y0)then some (.rt 13)else some (.nx ())):Option (Fl Unit Int))) ()).bind λad=>ad.cs (λ(aa:Unit)=>some 0)<|λr=>some r)
def ki(N:Nat)(p0:List aH):Option (List aH):=
 (app 32 ([]:List aH) p0).bind λj=>some j
def kY(N:Nat)(p0 p1:aH):Option Int:=
 some (wrap .i64<|p0.Y0 - p1.Y0)
def iR(N:Nat)(p0:List Int):Option (List Int):=
 bif decide ((p0.length:Int)<2)then some p0 else((jg (λ(o:Int)=>(bif decide (o<(p0.length:Int))then((idx p0 o).bind λab=>(idx p0<|wrap .i64<|o - 1).bind λad=>bif ab==ad then((uj p0 o (p0.length:Int)).bind λak=>(jg (λ(j:List Int×Int×Int)=>(bif decide (j.2.2<(((j.1.length - Int.toNat o):Nat):Int))then((Ig j.1 o j.2.2).bind λae=>(Ig j.1 o<|wrap .i64<|j.2.2 - 1).bind λaf=>(bif ae != af then((Ig j.1 o j.2.2).bind λag=>(idx j.1 j.2.1).bind λal=>some (j.1.set (Int.toNat j.2.1) ag,wrap .i64<|j.2.1+1))else some (j.1,j.2.1)).bind λaa=>some<|.nx (aa.1,aa.2,wrap .i64<|j.2.2+1))else(some<|.br (j.1,j.2.1,j.2.2)):Option (Fl (List Int×Int×Int) Empty))) N (p0,o,1)).bind λah=>ah.cs (λ(j:List Int×Int×Int)=>(uj j.1 j.2.1 (j.1.length:Int)).bind λan=>(uj (j.1.take (Int.toNat j.2.1)++List.replicate (j.1.length - Int.toNat j.2.1) (0:Int)) 0 j.2.1).bind λai=>some<|.rt ai)<|λr=>r.elim)else some (.nx<|wrap .i64<|o+1))else(some<|.br o):Option (Fl Int<|List Int))) N 1).bind λaj=>aj.cs (λ(o:Int)=>some p0)<|λr=>some r)
def qp(N:Nat)(p0:aH)(p1:List Int)(p2:Int):Option Bool:=
 (idx p1 p2).bind λj=>some<|decide<|p0.Y1<=j
def ni(N:Nat)(p0:List aH)(p1:aH->Option Bool):Option Int:=
 (tL p0.length (λ(j:Nat)(o:Unit)=>((idx p0 (j:Int)).bind λaa=>(p1 aa).bind λab=>bif ab then some (.rt (j:Int))else(some<|.nx ()):Option (Fl Unit Int))) ()).bind λad=>ad.cs (λ(o:Unit)=>some<|-1)<|λr=>some r
def lW(N:Nat)(p0:List aH)(p1:aH->Option Bool):Option Int:=
 (tL p0.length (λ(j:Nat)(o:Unit)=>((idx p0 (j:Int)).bind λaa=>(p1 aa).bind λab=>bif ab then some (.rt (j:Int))else(some<|.nx ()):Option (Fl Unit Int))) ()).bind λad=>ad.cs (λ(o:Unit)=>some<|-1)<|λr=>some r
def jr(N:Nat)(p0:List aH)(p1:aH->Option Bool):Option (List aH):=
 (lW N p0 p1).bind λo=>bif o==(-1)then some p0 else((jg (λ(j:List aH×Int×Int)=>(bif decide (j.2.2<(j.1.length:Int))then((idx j.1 j.2.2).bind λaa=>(p1 aa).bind λad=>(bif(!ad)then((idx j.1 j.2.1).bind λag=>some (j.1.set (Int.toNat j.2.1) aa,wrap .i64<|j.2.1+1))else some (j.1,j.2.1)).bind λab=>some<|.nx (ab.1,ab.2,wrap .i64<|j.2.2+1))else(some<|.br (j.1,j.2.1,j.2.2)):Option (Fl (List aH×Int×Int) Empty))) N (p0,o,wrap .i64<|o+1)).bind λae=>ae.cs (λ(j:List aH×Int×Int)=>(uj j.1 j.2.1 (j.1.length:Int)).bind λah=>(uj (j.1.take (Int.toNat j.2.1)++List.replicate (j.1.length - Int.toNat j.2.1) (⟨0,0,0,0⟩:aH)) 0 j.2.1).bind λaf=>some af)<|λr=>r.elim)
def iS(N:Nat)(p0 p1:aH):Option Int:=
 some (wrap .i64<|p0.X0 - p1.X0)
def kx(N:Nat)(p0:List aH):Option (List Int×List aH):=
 (zR (iS N) p0).bind λaa=>(mx aa.length (λ(ad:Nat)(j:List Int)=>((idx aa (ad:Int)).bind λo=>(bif decide (wrap .i64 ((j.length:Int) - 1)>=0)then((idx j<|wrap .i64<|(j.length:Int) - 1).bind λae=>some<|decide<|o.X0<=ae)else some false).bind λaf=>(bif af then((idx j<|wrap .i64<|(j.length:Int) - 1).bind λab=>(idx j<|wrap .i64<|(j.length:Int) - 1).bind λai=>some<|j.set (Int.toNat<|wrap .i64<|(j.length:Int) - 1) (if ab<o.X1 then o.X1 else ab))else((app 8 j ([o.X0,o.X1]:List Int)).bind λag=>some ag)).bind λah=>some ah:Option (List Int))) ([]:List Int)).bind λj=>some (j,aa)
def oA(N:Nat)(p0:List Int)(p1:List Int):Option Bool:=
 bif(p0.length:Int) != (p1.length:Int)then some false else((tL p0.length (λ(j:Nat)(o:Unit)=>((idx p0 (j:Int)).bind λaa=>(idx p1 (j:Int)).bind λab=>bif aa != ab then some (.rt false)else(some<|.nx ()):Option (Fl Unit Bool))) ()).bind λad=>ad.cs (λ(o:Unit)=>some true)<|λr=>some r)
def j8(N:Nat)(p0:List aA)(p1:aA):Option (List aA):=
 bif((p1.Xs.length:Int)==0)||decide (p1.Y1<=p1.Y0)then some p0 else((bif decide (wrap .i64 ((p0.length:Int) - 1)>=0)then((idx p0<|wrap .i64<|(p0.length:Int) - 1).bind λj=>bif j.Y1==p1.Y0 then((idx p0<|wrap .i64<|(p0.length:Int) - 1).bind λo=>(oA N o.Xs p1.Xs).bind λaa=>some aa)else some false)else some false).bind λab=>bif ab then((idx p0<|wrap .i64<|(p0.length:Int) - 1).bind λad=>some<|p0.set (Int.toNat<|wrap .i64<|(p0.length:Int) - 1)<|{ad with Y1:=p1.Y1})else((app 40 p0 ([p1]:List aA)).bind λae=>some ae))
def iV(N:Nat)(p0:List aH):Option (List aA):=
 (ki N p0).bind λag=>(zR (kY N) ag).bind λaa=>(mx aa.length (λ(ah:Nat)(ad:List Int)=>((idx aa (ah:Int)).bind λae=>(app 8 ad ([ae.Y0,ae.Y1]:List Int)).bind λai=>some ai:Option (List Int))) ([]:List Int)).bind λad=>(w6 ad).bind λaj=>(iR N aj).bind λab=>(jg (λ(j:List aA×List aH×Int×Int)=>(bif decide (wrap .i64 (j.2.2.2+1)<(ab.length:Int))then((jr N j.2.1<|λy0=>qp N y0 ab j.2.2.2).bind λak=>(jg (λ(o:List aH×Int)=>((bif decide (o.2<(aa.length:Int))then((idx aa o.2).bind λal=>(idx ab j.2.2.2).bind λan=>some<|decide<|al.Y0<=an)else some false).bind λao=>bif ao then((idx aa o.2).bind λaq=>(app 32 o.1 ([aq]:List aH)).bind λar=>some<|.nx (ar,wrap .i64<|o.2+1))else(some<|.br (o.1,o.2)):Option (Fl (List aH×Int) Empty))) N (ak,j.2.2.1)).bind λau=>au.cs (λ(o:List aH×Int)=>(idx ab j.2.2.2).bind λav=>(idx ab<|wrap .i64<|j.2.2.2+1).bind λaw=>(kx N o.1).bind λaf=>(j8 N j.1 (⟨av,aw,af.1⟩:aA)).bind λax=>some<|.nx (ax,af.2,o.2,wrap .i64<|j.2.2.2+1))<|λr=>r.elim)else(some<|.br (j.1,j.2.1,j.2.2.1,j.2.2.2)):Option (Fl (List aA×List aH×Int×Int) Empty))) N (([]:List aA),([]:List aH),0,0)).bind λay=>ay.cs (λ(j:List aA×List aH×Int×Int)=>some j.1)<|λr=>r.elim
def ky(N:Nat)(p0:List aA):Option (List aH):=
 (mx p0.length (λ(ab:Nat)(aa:List aH)=>((idx p0 (ab:Int)).bind λo=>(jg (λ(j:List aH×Int)=>(bif decide (j.2<(o.Xs.length:Int))then((idx o.Xs j.2).bind λad=>(idx o.Xs<|wrap .i64<|j.2+1).bind λae=>(app 32 j.1 ([(⟨ad,o.Y0,ae,o.Y1⟩:aH)]:List aH)).bind λaf=>some<|.nx (af,wrap .i64<|j.2+2))else(some<|.br (j.1,j.2)):Option (Fl (List aH×Int) Empty))) N (aa,0)).bind λag=>ag.cs (λ(j:List aH×Int)=>some j.1) (λr=>r.elim):Option (List aH))) ([]:List aH)).bind λaa=>some aa
def lL(N:Nat)(p0:List aH)(p1:List aH):Option Bool:=
 bif(p0.length:Int) != (p1.length:Int)then some false else((tL p0.length (λ(j:Nat)(o:Unit)=>((idx p0 (j:Int)).bind λaa=>(idx p1 (j:Int)).bind λab=>bif(!(decide<|aa=ab))then some (.rt false)else(some<|.nx ()):Option (Fl Unit Bool))) ()).bind λad=>ad.cs (λ(o:Unit)=>some true)<|λr=>some r)
def kj(N:Nat)(p0:List aH):Option Int:=
 (l9 N p0).bind λab=>bif ab != 0 then some ab else((jg (λ(j:Int)=>(bif decide (j<(p0.length:Int))then((idx p0<|wrap .i64<|j - 1).bind λo=>(idx p0 j).bind λaa=>bif decide (aa.Y0<o.Y0)||((aa.Y0==o.Y0)&&decide (aa.X0<=o.X0))then some (.rt 8)else some (.nx<|wrap .i64<|j+1))else(some<|.br j):Option (Fl Int Int))) N 1).bind λad=>ad.cs (λ(j:Int)=>(iV N p0).bind λae=>(ky N ae).bind λaf=>(lL N af p0).bind λag=>bif(!ag)then some 3 else some 0)<|λr=>some r)
def jm(N:Nat)(p0 p1 p2:Int):Option Bool:=
 some (decide (p0>=p1)&&decide (p0<=p2))
def kO(N:Nat)(p0:jX):Option Bool:=
 ((mA N p0.X).bind λj=>bif j then((mA N p0.Y).bind λo=>some o)else some false).bind λaa=>some aa
def hU(N:Nat)(p0:bR):Option aH:=
 some (⟨wrap .i64<|p0.At.X -(wrap .i64<|Int.tdiv p0.dT 2),wrap .i64<|p0.At.Y -(wrap .i64<|Int.tdiv p0.dT 2),wrap .i64<|wrap .i64 (p0.At.X -(wrap .i64<|Int.tdiv p0.dT 2))+p0.dT,wrap .i64<|wrap .i64 (p0.At.Y -(wrap .i64<|Int.tdiv p0.dT 2))+p0.dT⟩:aH)
def oC(N:Nat)(p0:List aA):Option aH:=
 (idx p0 0).bind λad=>(idx ad.Xs 0).bind λae=>(idx p0 0).bind λaf=>(idx p0 0).bind λag=>(idx ag.Xs 1).bind λah=>(idx p0<|wrap .i64<|(p0.length:Int) - 1).bind λai=>(mx p0.length (λ(aj:Nat)(j:aH)=>((idx p0 (aj:Int)).bind λo=>(idx o.Xs 0).bind λaa=>(idx o.Xs<|wrap .i64<|(o.Xs.length:Int) - 1).bind λab=>some ({{j with X0:=(if aa<j.X0 then aa else j.X0)}with X1:=(if j.X1<ab then ab else j.X1)}):Option aH)) (⟨ae,af.Y0,ah,ai.Y1⟩:aH)).bind λj=>some j
def nQ(N:Nat)(p0:List aA):Option Bool:=
 (bif(p0.length:Int)==0 then some true else((oC N p0).bind λj=>(oz N j).bind λo=>some o)).bind λaa=>some aa
def m6(N:Nat)(p0:bR):Option (aH×Int):=
 ((jm N p0.dT 1 10000).bind λo=>bif(!o)then some true else((kO N p0.At).bind λaa=>some<|!aa)).bind λab=>bif ab then some ((⟨0,0,0,0⟩:aH),1)else((hU N p0).bind λj=>(iV N ([j]:List aH)).bind λad=>(nQ N ad).bind λae=>bif(!ae)then some ((⟨0,0,0,0⟩:aH),1)else some (j,0))
def lM(N:Nat)(p0:gQ):Option Int:=
 bif decide ((p0.aN.length:Int)>500)then some 2 else((tL p0.aN.length (λ(aa:Nat)(ab:Unit)=>((idx p0.aN (aa:Int)).bind λj=>(m6 N j).bind λo=>bif o.2 != 0 then some (.rt o.2)else(((jm N j.cR 0<|wrap .i64<|(p0.aK.length:Int) - 1).bind λad=>bif(!ad)then some true else((jm N j.To j.cR<|wrap .i64<|(p0.aK.length:Int) - 1).bind λae=>some<|!ae)).bind λaf=>bif af then some (.rt 1)else some (.nx ())):Option (Fl Unit Int))) ()).bind λag=>ag.cs (λ(ab:Unit)=>some 0)<|λr=>some r)
def jH(N:Nat)(p0:eJ)(p1:Int):Option Int:=
 some (Lib.indexByte p0.dL (Int.toNat p1).toUInt8)
def lN(N:Nat)(p0 p1:eJ):Option Int:=
 bif((p1.dL.length:Int)==0)||p1.o6 p0 then some 0 else(bif(p1.dL.length:Int)==1 then((Ia p1 0).bind λj=>(jH N p0 (j.toNat:Int)).bind λo=>some o)else(bif decide ((p1.dL.length:Int)>=(p0.dL.length:Int))then some (-1)else none))
def m7(N:Nat)(p0 p1:eJ):Option Int:=
 (lN N p0 p1).bind λj=>some j
def o7(N:Nat)(p0 p1:eJ):Option Int:=
 bif(p1.dL.length:Int)==0 then none else(bif(p1.dL.length:Int)==1 then((Ia p1 0).bind λaa=>some ((Lib.countByte p0.dL (Int.toNat (aa.toNat:Int)).toUInt8:Nat):Int))else((jg (λ(j:eJ×Int)=>((m7 N j.1 p1).bind λo=>bif o==(-1)then some (.rt j.2)else((y4 j.1 (wrap .i64<|o+(p1.dL.length:Int)) (j.1.dL.length:Int)).bind λab=>some<|.nx (ab,wrap .i64<|j.2+1)):Option (Fl (eJ×Int) Int))) N (p0,0)).bind λad=>ad.cs (λ(j:eJ×Int)=>some 0)<|λr=>some r))
def oD(N:Nat)(p0 p1:eJ)(p2 p3:Int):Option (List eJ):=
 bif p3==0 then some ([]:List eJ)else(bif p1.o6 (⟨[]⟩)then none else((bif decide (p3<0)then((o7 N p0 p1).bind λab=>some<|wrap .i64<|ab+1)else some p3).bind λo=>(mk 16 (⟨[]⟩:eJ) (if wrap .i64 ((p0.dL.length:Int)+1)<o then wrap .i64 ((p0.dL.length:Int)+1)else o)).bind λad=>(jg (λ(j:eJ×List eJ×Int)=>(bif decide (j.2.2< wrap .i64 ((if wrap .i64 ((p0.dL.length:Int)+1)<o then wrap .i64 ((p0.dL.length:Int)+1)else o) - 1))then((m7 N j.1 p1).bind λaa=>bif decide (aa<0)then some (.br (j.1,j.2.1,j.2.2))else((y4 j.1 0<|wrap .i64<|aa+p2).bind λae=>(idx j.2.1 j.2.2).bind λai=>(y4 j.1 (wrap .i64<|aa+(p1.dL.length:Int)) (j.1.dL.length:Int)).bind λaf=>some<|.nx (af,j.2.1.set (Int.toNat j.2.2) ae,wrap .i64<|j.2.2+1)))else(some<|.br (j.1,j.2.1,j.2.2)):Option (Fl (eJ×List eJ×Int) Empty))) N (p0,ad,0)).bind λag=>ag.cs (λ(j:eJ×List eJ×Int)=>(idx j.2.1 j.2.2).bind λaj=>(uj (j.2.1.set (Int.toNat j.2.2) j.1) 0<|wrap .i64<|j.2.2+1).bind λah=>some ah)<|λr=>r.elim))
def m8(N:Nat)(p0 p1:eJ):Option (List eJ):=
 (oD N p0 p1 0<|-1).bind λj=>some j
def ma(N:Nat)(p0:List eJ)(p1:eJ->Option Bool):Option Int:=
 (tL p0.length (λ(j:Nat)(o:Unit)=>((idx p0 (j:Int)).bind λaa=>(p1 aa).bind λab=>bif ab then some (.rt (j:Int))else(some<|.nx ()):Option (Fl Unit Int))) ()).bind λad=>ad.cs (λ(o:Unit)=>some<|-1)<|λr=>some r
def jt(N:Nat)(p0:List eJ)(p1:eJ->Option Bool):Option Bool:=
 (ma N p0 p1).bind λj=>some<|decide<|j>=0
def iz(N:Nat)(p0:eJ)(p1:Int):Option Int:=
 (jH N p0 p1).bind λj=>some j
def j9(N:Nat)(p0:eJ):Option Bool:=
 (tL p0.dL.length (λ(o:Nat)(aa:Unit)=>((Ia p0 (o:Int)).bind λj=>(bif((decide ((j.toNat:Int)<65)||decide ((j.toNat:Int)>90))&&(decide ((j.toNat:Int)<97)||decide ((j.toNat:Int)>122)))&&(decide ((j.toNat:Int)<48)||decide ((j.toNat:Int)>57))then((iz N (⟨[95,43,45,35]⟩) (j.toNat:Int)).bind λab=>some<|decide<|ab<0)else some false).bind λad=>bif ad then some (.rt false)else(some<|.nx ()):Option (Fl Unit Bool))) ()).bind λae=>ae.cs (λ(aa:Unit)=>some<|decide ((p0.dL.length:Int)>=1)&&decide ((p0.dL.length:Int)<=40))<|λr=>some r
def ju(N:Nat)(p0:eJ):Option Bool:=
 (j9 N p0).bind λj=>some<|!j
def nR(N:Nat)(p0:eJ):Option Bool:=
 (bif decide ((p0.dL.length:Int)<=200)then((m8 N p0<|⟨[47]⟩).bind λj=>(jt N j<|ju N).bind λo=>some<|!o)else some false).bind λaa=>some aa
def mB(N:Nat)(p0:cS):Option dQ:=
 some (⟨p0.Part,p0.dQ⟩:dQ)
def nj(N:Nat)(p0 p1:eJ):Option Int:=
 some (Lib.compareBytes p0.dL p1.dL)
def pB(N:Nat)(p0 p1:eJ):Option Int:=
 (nj N p0 p1).bind λj=>some j
def eT(N:Nat)(p0 p1:dQ):Option Int:=
 (pB N p0.Part p1.Part).bind λj=>bif j != 0 then some j else((pB N p0.dQ p1.dQ).bind λo=>some o)
def lO(N:Nat)(p0:gQ):Option Int:=
 bif decide ((p0.bJ.length:Int)>1000)then some 2 else((tL p0.bJ.length (λ(o:Nat)(aa:Unit)=>((idx p0.bJ (o:Int)).bind λj=>((nR N j.Part).bind λab=>bif(!ab)then some true else((j9 N j.dQ).bind λad=>some<|!ad)).bind λae=>bif ae then some (.rt 5)else(((jm N j.dN 0<|wrap .i64<|(p0.aK.length:Int) - 1).bind λaf=>bif(!af)then some true else((kO N j.At).bind λag=>some<|!ag)).bind λah=>bif ah then some (.rt 1)else((bif decide ((o:Int)>0)then((idx p0.bJ<|wrap .i64<|(o:Int) - 1).bind λai=>(mB N j).bind λaj=>(mB N ai).bind λak=>(eT N aj ak).bind λal=>some<|decide<|al<=0)else some false).bind λan=>bif an then some (.rt 8)else some (.nx ()))):Option (Fl Unit Int))) ()).bind λao=>ao.cs (λ(aa:Unit)=>some 0)<|λr=>some r)
def m9(N:Nat)(p0 p1:Int)(p2 p3:Int):Option Int:=
 some (if(if 0<(wrap .i64<|wrap .i64 (p2 - p1)+1)then wrap .i64 (wrap .i64 (p2 - p1)+1)else 0)<(wrap .i64<|wrap .i64 (p0 - p3)+1)then wrap .i64 (wrap .i64 (p0 - p3)+1)else(if 0<(wrap .i64<|wrap .i64 (p2 - p1)+1)then wrap .i64 (wrap .i64 (p2 - p1)+1)else 0))
def uM(N:Nat)(p0 p1:aH):Option Int:=
 (m9 N p0.X0 p0.X1 p1.X0 p1.X1).bind λj=>(m9 N p0.Y0 p0.Y1 p1.Y0 p1.Y1).bind λo=>some (if j<o then o else j)
def mb(N:Nat)(p0:bR)(p1:Int):Option Bool:=
 some (decide (p0.cR<=p1)&&decide (p1<=p0.To))
def oE(N:Nat)(p0:List aA)(p1 p2:Int):Option (List Int×Int):=
 bif(p0.length:Int)==0 then some (([]:List Int),p2)else((idx p0 0).bind λaa=>bif decide (p1<aa.Y0)then((idx p0 0).bind λj=>some (([]:List Int),(if j.Y0<p2 then j.Y0 else p2)))else((idx p0 0).bind λab=>(idx p0 0).bind λo=>some (ab.Xs,(if o.Y1<p2 then o.Y1 else p2))))
def s8(N:Nat)(p0:List Int)(p1:List Int)(p2:Bool->Bool->Option Bool):Option (List Int):=
 (jg (λ(j:List Int×List Int×List Int×Bool×Bool×Bool)=>((bif decide ((j.1.length:Int)>0)then some true else some (decide<|(j.2.1.length:Int)>0)).bind λaf=>bif af then((bif(j.2.1.length:Int)==0 then some true else(bif decide ((j.1.length:Int)>0)then((idx j.1 0).bind λag=>(idx j.2.1 0).bind λah=>some<|decide<|ag<=ah)else some false)).bind λai=>(bif ai then((idx j.1 0).bind λaj=>some aj)else((idx j.2.1 0).bind λak=>some ak)).bind λo=>(bif decide ((j.1.length:Int)>0)then((idx j.1 0).bind λal=>some<|al==o)else some false).bind λan=>(bif an then((uj j.1 1 (j.1.length:Int)).bind λao=>some (ao,(!j.2.2.2.1)))else some (j.1,j.2.2.2.1)).bind λaa=>(bif decide ((j.2.1.length:Int)>0)then((idx j.2.1 0).bind λaq=>some<|aq==o)else some false).bind λar=>(bif ar then((uj j.2.1 1 (j.2.1.length:Int)).bind λau=>some (au,(!j.2.2.2.2.1)))else some (j.2.1,j.2.2.2.2.1)).bind λab=>(p2 aa.2 ab.2).bind λad=>(bif ad != j.2.2.2.2.2 then((app 8 j.2.2.1 ([o]:List Int)).bind λav=>some (av,ad))else some (j.2.2.1,j.2.2.2.2.2)).bind λae=>some<|.nx (aa.1,ab.1,ae.1,aa.2,ab.2,ae.2))else(some<|.br (j.1,j.2.1,j.2.2.1,j.2.2.2.1,j.2.2.2.2.1,j.2.2.2.2.2)):Option (Fl (List Int×List Int×List Int×Bool×Bool×Bool) Empty))) N (p0,p1,([]:List Int),false,false,false)).bind λaw=>aw.cs (λ(j:List Int×List Int×List Int×Bool×Bool×Bool)=>some j.2.2.1)<|λr=>r.elim
def rq(N:Nat)(p0:List aA)(p1:List aA)(p2:Bool->Bool->Option Bool):Option (List aA):=
 bif wrap .i64 ((p0.length:Int)+(p1.length:Int))==0 then some ([]:List aA)else((mx (([p0,p1]:List (List aA)).length) (λ(ah:Nat)(o:Int×Int)=>((idx ([p0,p1]:List (List aA)) (ah:Int)).bind λad=>(bif decide ((ad.length:Int)>0)then((bif(ah:Int)==0 then some true else some ((p0.length:Int)==0)).bind λal=>(bif al then((idx ad 0).bind λan=>(idx ad<|wrap .i64<|(ad.length:Int) - 1).bind λao=>some (an.Y0,ao.Y1))else some (o.1,o.2)).bind λag=>(idx ad 0).bind λai=>(idx ad<|wrap .i64<|(ad.length:Int) - 1).bind λaj=>some ((if ai.Y0<ag.1 then ai.Y0 else ag.1),(if ag.2<aj.Y1 then aj.Y1 else ag.2)))else some (o.1,o.2)).bind λak=>some (ak.1,ak.2):Option (Int×Int))) (0,0)).bind λo=>(jg (λ(j:List aA×List aA×List aA×Int)=>(bif decide (j.2.2.2<o.2)then((jg (λ(aa:List aA)=>((bif decide ((aa.length:Int)>0)then((idx aa 0).bind λaq=>some<|decide<|aq.Y1<=j.2.2.2)else some false).bind λar=>bif ar then((uj aa 1 (aa.length:Int)).bind λau=>some<|.nx au)else(some<|.br aa):Option (Fl (List aA) Empty))) N j.1).bind λav=>av.cs (λ(aa:List aA)=>(jg (λ(ab:List aA)=>((bif decide ((ab.length:Int)>0)then((idx ab 0).bind λaw=>some<|decide<|aw.Y1<=j.2.2.2)else some false).bind λax=>bif ax then((uj ab 1 (ab.length:Int)).bind λay=>some<|.nx ay)else(some<|.br ab):Option (Fl (List aA) Empty))) N j.2.1).bind λaz=>az.cs (λ(ab:List aA)=>(oE N aa j.2.2.2 o.2).bind λae=>(oE N ab j.2.2.2 o.2).bind λaf=>(s8 N ae.1 af.1 p2).bind λa0=>(j8 N j.2.2.1 (⟨j.2.2.2,(if af.2<ae.2 then af.2 else ae.2),a0⟩:aA)).bind λa1=>some<|.nx (aa,ab,a1,(if af.2<ae.2 then af.2 else ae.2)))<|λr=>r.elim)<|λr=>r.elim)else(some<|.br (j.1,j.2.1,j.2.2.1,j.2.2.2)):Option (Fl (List aA×List aA×List aA×Int) Empty))) N (p0,p1,([]:List aA),o.1)).bind λa2=>a2.cs (λ(j:List aA×List aA×List aA×Int)=>some j.2.2.1)<|λr=>r.elim)
def qs(N:Nat)(p0 p1:Bool):Option Bool:=
 some (p0&&(!p1))
def mc(N:Nat)(p0:List aA)(p1:List aA):Option (List aA):=
 (rq N p0 p1<|qs N).bind λj=>some j
def nS(N:Nat)(p0:List aA):Option Int:=
 (mx p0.length (λ(o:Nat)(j:Int)=>((idx p0 (o:Int)).bind λaa=>some (wrap .i64<|j+ wrap .i64 (Int.tdiv (aa.Xs.length:Int) 2)):Option Int)) 0).bind λj=>some j
def ga(N:Nat)(p0:Int)(p1_0:List Int):Option (Int×List Int):=
 (jg (λ(j:Int×List Int)=>((idx j.2 j.1).bind λaa=>bif aa != j.1 then((idx j.2 j.1).bind λab=>(idx j.2 ab).bind λo=>(idx j.2 j.1).bind λaf=>(idx (j.2.set (Int.toNat j.1) o) j.1).bind λad=>some<|.nx (ad,j.2.set (Int.toNat j.1) o))else(some<|.br (j.1,j.2)):Option (Fl (Int×List Int) Empty))) N (p0,p1_0)).bind λae=>ae.cs (λ(j:Int×List Int)=>some (j.1,j.2))<|λr=>r.elim
def mO(N:Nat)(p0:List aA):Option (List<|List aA):=
 (ky N p0).bind λab=>(mk 8 (0:Int) (ab.length:Int)).bind λan=>(mx an.length (λ(ai:Nat)(ag:List Int)=>((idx ag (ai:Int)).bind λbd=>some (ag.set (Int.toNat (ai:Int)) (ai:Int)):Option (List Int))) an).bind λag=>(mx p0.length (λ(aj:Nat)(aa:List Int×Int×Int)=>((idx p0 (aj:Int)).bind λak=>(bif decide ((aj:Int)>0)then((idx p0<|wrap .i64<|(aj:Int) - 1).bind λar=>some<|ar.Y1==ak.Y0)else some false).bind λau=>(bif au then((jg (λ(j:List Int×Int×Int)=>(bif decide (j.2.1<aa.2.1)&&decide (j.2.2< wrap .i64 (aa.2.1+ wrap .i64 (Int.tdiv (ak.Xs.length:Int) 2)))then(((idx ab j.2.1).bind λav=>(idx ab j.2.2).bind λaw=>bif decide (av.X0<aw.X1)then((idx ab j.2.2).bind λax=>(idx ab j.2.1).bind λay=>some<|decide<|ax.X0<ay.X1)else some false).bind λaz=>(bif az then((ga N j.2.1 j.1).bind λae=>(ga N j.2.2 ae.2).bind λad=>(idx ad.2 (if ae.1<ad.1 then ad.1 else ae.1)).bind λbf=>some<|ad.2.set (Int.toNat (if ae.1<ad.1 then ad.1 else ae.1)) (if ad.1<ae.1 then ad.1 else ae.1))else some j.1).bind λa0=>(idx ab j.2.1).bind λa1=>(idx ab j.2.2).bind λa2=>(bif decide (a1.X1<a2.X1)then some (wrap .i64<|j.2.1+1,j.2.2)else some (j.2.1,wrap .i64<|j.2.2+1)).bind λao=>some<|.nx (a0,ao.1,ao.2))else(some<|.br (j.1,j.2.1,j.2.2)):Option (Fl (List Int×Int×Int) Empty))) N (aa.1,aa.2.2,aa.2.1)).bind λa3=>a3.cs (λ(j:List Int×Int×Int)=>some j.1)<|λr=>r.elim)else some aa.1).bind λa4=>some (a4,wrap .i64<|aa.2.1+ wrap .i64 (Int.tdiv (ak.Xs.length:Int) 2),aa.2.1):Option (List Int×Int×Int))) (ag,0,0)).bind λaa=>(mx ab.length (λ(aq:Nat)(o:List Int×List (Int×Int)×List (List aH))=>((idx ab (aq:Int)).bind λa5=>(ga N (aq:Int) o.1).bind λah=>(bif(!(lV o.2.1 ah.1))then((app 24 o.2.2 [([]:List aH)]).bind λa6=>some (rp o.2.1 ah.1 (o.2.2.length:Int),a6,(o.2.2.length:Int)))else some (o.2.1,o.2.2,fB o.2.1 ah.1 (0:Int))).bind λaf=>(idx af.2.1 af.2.2).bind λa7=>(app 32 a7 ([a5]:List aH)).bind λa8=>(idx af.2.1 af.2.2).bind λbg=>some (ah.2,af.1,af.2.1.set (Int.toNat af.2.2) a8):Option (List Int×List (Int×Int)×List (List aH)))) (aa.1,([]:List (Int×Int)),([]:List (List aH)))).bind λo=>(mx o.2.2.length (λ(a9:Nat)(al:List (List aA))=>((idx o.2.2 (a9:Int)).bind λba=>(iV N ba).bind λbb=>(app 24 al ([bb]:List (List aA))).bind λbc=>some bc:Option (List<|List aA))) ([]:List (List aA))).bind λal=>some al
def kZ(N:Nat)(p0_0:List (List aH))(p0_2:List bR)(p0_4:List (List aA))(p0_5:List aF):Option (Bool×List (List aA)×List aF):=
 (mx p0_0.length (λ(aa:Nat)(j:List (List aA)×List aF×Bool)=>((idx p0_0 (aa:Int)).bind λai=>(mx p0_2.length (λ(aj:Nat)(o:List aH)=>((idx p0_2 (aj:Int)).bind λaf=>(mb N af (aa:Int)).bind λak=>(bif ak then((hU N af).bind λal=>(app 32 o ([al]:List aH)).bind λan=>some an)else some o).bind λao=>some ao:Option (List aH))) ([]:List aH)).bind λo=>(iV N ai).bind λaq=>(iV N o).bind λar=>(mc N aq ar).bind λab=>(bif j.2.2 then((nS N ab).bind λau=>some (decide<|au<=2000,ab))else some (false,ab)).bind λad=>(app 24 j.1 ([ad.2]:List (List aA))).bind λav=>(mO N ad.2).bind λag=>(mx ag.length (λ(aw:Nat)(ae:List aF)=>((idx ag (aw:Int)).bind λah=>(ky N ah).bind λax=>(app 56 ae ([(⟨(aa:Int),ah,ax⟩:aF)]:List aF)).bind λay=>some ay:Option (List aF))) j.2.1).bind λae=>some (av,ae,ad.1):Option (List (List aA)×List aF×Bool))) (p0_4,p0_5,true)).bind λj=>(bif j.2.2 then some (decide<|(j.2.1.length:Int)<=2000)else some false).bind λaz=>some (az,j.1,j.2.1)
def uk(N:Nat)(p0 p1:aH):Option Bool:=
 some (((decide (p0.X0<p1.X1)&&decide (p1.X0<p0.X1))&&((p0.Y1==p1.Y0)||(p1.Y1==p0.Y0)))||((decide (p0.Y0<p1.Y1)&&decide (p1.Y0<p0.Y1))&&((p0.X1==p1.X0)||(p1.X1==p0.X0))))
def lq(N:Nat)(p0:aH)(p1:bR):Option Bool:=
 (hU N p1).bind λj=>(uk N p0 j).bind λo=>some o
def iH(N:Nat)(p0:List aH)(p1:aH->Option Bool):Option Bool:=
 (ni N p0 p1).bind λj=>some<|decide<|j>=0
def k6(N:Nat)(p0_2:List bR)(p0_5:List aF)(p0_6:List (List Int)):Option (List<|List Int):=
 (mx p0_2.length (λ(ae:Nat)(o:List (List Int))=>((idx p0_2 (ae:Int)).bind λaa=>(mx p0_5.length (λ(ab:Nat)(j:List Int)=>((idx p0_5 (ab:Int)).bind λad=>(bif aa.eN then((mb N aa ad.dN).bind λaf=>bif af then((iH N ad.gU<|λy0=>lq N y0 aa).bind λag=>some ag)else some false)else some false).bind λah=>(bif ah then((app 8 j ([(ab:Int)]:List Int)).bind λai=>some ai)else some j).bind λaj=>some aj:Option (List Int))) ([]:List Int)).bind λj=>(app 24 o ([j]:List (List Int))).bind λak=>some ak:Option (List<|List Int))) p0_6).bind λo=>some o
def kR(N:Nat)(p0:Int):Option (List Int):=
 (mk 8 (0:Int) p0).bind λaa=>(mx aa.length (λ(o:Nat)(j:List Int)=>((idx j (o:Int)).bind λab=>some (j.set (Int.toNat (o:Int)) (o:Int)):Option (List Int))) aa).bind λj=>some j
def fu(N:Nat)(p0_0:List Int)(p1:Int):Option (Int×List Int):=
 (jg (λ(j:List Int×Int)=>((idx j.1 j.2).bind λaa=>bif aa != j.2 then((idx j.1 j.2).bind λab=>(idx j.1 ab).bind λo=>(idx j.1 j.2).bind λaf=>(idx (j.1.set (Int.toNat j.2) o) j.2).bind λad=>some<|.nx (j.1.set (Int.toNat j.2) o,ad))else(some<|.br (j.1,j.2)):Option (Fl (List Int×Int) Empty))) N (p0_0,p1)).bind λae=>ae.cs (λ(j:List Int×Int)=>some (j.2,j.1))<|λr=>r.elim
def fC(N:Nat)(p0_0:List Int)(p1 p2:Int):Option (List Int):=
 (fu N p0_0 p1).bind λo=>(fu N o.2 p2).bind λj=>(idx j.2 (if o.1<j.1 then j.1 else o.1)).bind λaa=>some<|j.2.set (Int.toNat (if o.1<j.1 then j.1 else o.1)) (if j.1<o.1 then j.1 else o.1)
def k7(N:Nat)(p0_0:List Int):Option (List (List Int)×List Int):=
 (mx p0_0.length (λ(ab:Nat)(j:List Int×List (List Int)×List (Int×Int))=>((fu N j.1 (ab:Int)).bind λaa=>(bif aa.1==(ab:Int)then((app 24 j.2.1 [([]:List Int)]).bind λad=>some (ad,rp j.2.2 (ab:Int) (j.2.1.length:Int)))else some (j.2.1,j.2.2)).bind λo=>(idx o.1<|fB o.2 aa.1 (0:Int)).bind λae=>(app 8 ae ([(ab:Int)]:List Int)).bind λaf=>(idx o.1<|fB o.2 aa.1 (0:Int)).bind λag=>some (aa.2,o.1.set (Int.toNat<|fB o.2 aa.1 (0:Int)) af,o.2):Option (List Int×List (List Int)×List (Int×Int)))) (p0_0,([]:List (List Int)),([]:List (Int×Int)))).bind λj=>some (j.2.1,j.1)
def mC(N:Nat)(p0:aH)(p1:jX):Option Bool:=
 (bif decide (p1.X>=p0.X0)then(bif decide (p1.X<p0.X1)then(bif decide (p1.Y>=p0.Y0)then some (decide<|p1.Y<p0.Y1)else some false)else some false)else some false).bind λj=>some j
def lE(N:Nat)(p0:List aH)(p1:jX):Option Bool:=
 (iH N p0<|λy0=>mC N y0 p1).bind λj=>some j
def k8(N:Nat)(p0_2:List bR)(p0_5:List aF)(p1:cS):Option (dK×Bool):=
 (tL p0_2.length (λ(o:Nat)(ad:Unit)=>((idx p0_2 (o:Int)).bind λj=>(bif j.eN then((mb N j p1.dN).bind λae=>bif ae then((hU N j).bind λaf=>(lE N ([af]:List aH) p1.At).bind λag=>some ag)else some false)else some false).bind λah=>bif ah then some (.rt ((⟨true,(o:Int)⟩:dK),true))else(some<|.nx ()):Option (Fl Unit<|dK×Bool))) ()).bind λai=>ai.cs (λ(ad:Unit)=>(tL p0_5.length (λ(aa:Nat)(aj:Unit)=>((idx p0_5 (aa:Int)).bind λab=>(bif ab.dN==p1.dN then((lE N ab.gU p1.At).bind λak=>some ak)else some false).bind λal=>bif al then some (.rt ((⟨false,(aa:Int)⟩:dK),true))else(some<|.nx ()):Option (Fl Unit<|dK×Bool))) ()).bind λan=>an.cs (λ(aj:Unit)=>some ((⟨false,0⟩:dK),false))<|λr=>some r)<|λr=>some r
def iW(N:Nat)(p0_8:List Int)(p0_9:List Int)(p1:dK):Option Int:=
 bif p1.bR then((idx p0_9 p1.Number).bind λj=>some j)else((idx p0_8 p1.Number).bind λo=>some o)
def gV(N:Nat)(p0_2:List bR)(p0_3:List cS)(p0_5:List aF)(p0_6:List (List Int))(p0_8:List Int)(p0_9:List Int)(p0_10:List Int)(p0_11:List dK):Option (List cF×List Int×List Int×List Int×List dK):=
 (kR N<|wrap .i64<|(p0_5.length:Int)+(p0_2.length:Int)).bind λar=>(mx p0_6.length (λ(ai:Nat)(af:List Int)=>((idx p0_6 (ai:Int)).bind λaj=>(mx aj.length (λ(au:Nat)(ag:List Int)=>((idx aj (au:Int)).bind λav=>(fC N ag av<|wrap .i64<|(p0_5.length:Int)+(ai:Int)).bind λaw=>some aw:Option (List Int))) af).bind λag=>some ag:Option (List Int))) ar).bind λaf=>(mk 8 (0:Int) (p0_5.length:Int)).bind λax=>(mk 8 (0:Int) (p0_2.length:Int)).bind λay=>(k7 N af).bind λak=>(mx ak.1.length (λ(az:Nat)(aa:List cF×List Int×List Int)=>((idx ak.1 (az:Int)).bind λal=>(mx al.length (λ(a0:Nat)(j:List Int×List Int×List Int×List Int)=>((idx al (a0:Int)).bind λab=>(bif decide (ab<(p0_5.length:Int))then((idx j.1 ab).bind λbd=>(app 8 j.2.2.1 ([ab]:List Int)).bind λa1=>some (j.1.set (Int.toNat ab) (aa.1.length:Int),j.2.1,a1,j.2.2.2))else((idx p0_2<|wrap .i64<|ab -(p0_5.length:Int)).bind λa2=>(bif a2.eN then((idx j.2.1<|wrap .i64<|ab -(p0_5.length:Int)).bind λbf=>(app 8 j.2.2.2 ([wrap .i64<|ab -(p0_5.length:Int)]:List Int)).bind λa3=>some (j.2.1.set (Int.toNat<|wrap .i64<|ab -(p0_5.length:Int)) (aa.1.length:Int),a3))else((idx j.2.1<|wrap .i64<|ab -(p0_5.length:Int)).bind λbg=>some (j.2.1.set (Int.toNat<|wrap .i64<|ab -(p0_5.length:Int))<|-1,j.2.2.2))).bind λan=>some (j.1,an.1,j.2.2.1,an.2))).bind λad=>some (ad.1,ad.2.1,ad.2.2.1,ad.2.2.2):Option (List Int×List Int×List Int×List Int))) (aa.2.1,aa.2.2,([]:List Int),([]:List Int))).bind λj=>(bif decide (wrap .i64 ((j.2.2.1.length:Int)+(j.2.2.2.length:Int))>0)then((app 72 aa.1 [(⟨j.2.2.1,j.2.2.2,([]:List dQ)⟩:cF)]).bind λa4=>some a4)else some aa.1).bind λa5=>some (a5,j.1,j.2.1):Option (List cF×List Int×List Int))) (([]:List cF),ax,ay)).bind λaa=>(mx p0_3.length (λ(a6:Nat)(o:List cF×List Int×List Int×List Int×List dK)=>((idx p0_3 (a6:Int)).bind λao=>(k8 N p0_2 p0_5 ao).bind λah=>(bif ah.2 then((iW N o.2.1 o.2.2.1 ah.1).bind λae=>(idx o.1 ae).bind λa7=>(mB N ao).bind λa8=>(app 32 a7.gL ([a8]:List dQ)).bind λa9=>(idx o.1 ae).bind λba=>some (o.1.set (Int.toNat ae) {ba with gL:=a9},ae))else some (o.1,(-1))).bind λaq=>(app 8 o.2.2.2.1 ([aq.2]:List Int)).bind λbb=>(app 16 o.2.2.2.2 ([ah.1]:List dK)).bind λbc=>some (aq.1,o.2.1,o.2.2.1,bb,bc):Option (List cF×List Int×List Int×List Int×List dK))) (aa.1,aa.2.1,aa.2.2,p0_10,p0_11)).bind λo=>some (o.1,o.2.1,o.2.2.1,o.2.2.2.1,o.2.2.2.2)
def iA(N:Nat)(p0:gQ):Option (Option (List (List aH)×List aH×List bR×List cS×List (List aA)×List aF×List (List Int)×List cF×List Int×List Int×List Int×List dK)×Int):=
 bif(p0.aK.length:Int)==0 then some (none,9)else(bif decide ((p0.aK.length:Int)>16)then some (none,2)else((tL p0.aK.length (λ(an:Nat)(aa:Int)=>((idx p0.aK (an:Int)).bind λae=>(kj N ae).bind λaf=>bif af != 0 then some (.rt (none,af))else(some<|.nx<|wrap .i64<|aa+(ae.length:Int)):Option (Fl Int<|Option (List (List aH)×List aH×List bR×List cS×List (List aA)×List aF×List (List Int)×List cF×List Int×List Int×List Int×List dK)×Int))) (p0.cJ.length:Int)).bind λao=>ao.cs (λ(aa:Int)=>(kj N p0.cJ).bind λag=>bif ag != 0 then some (none,ag)else(bif decide (aa>2000)then some (none,2)else((lM N p0).bind λah=>bif ah != 0 then some (none,ah)else((lO N p0).bind λai=>bif ai != 0 then some (none,ai)else((tL p0.aN.length (λ(aj:Nat)(aq:Unit)=>((idx p0.aN (aj:Int)).bind λab=>(uj p0.aN 0 (aj:Int)).bind λak=>(tL ak.length (λ(ar:Nat)(au:Unit)=>((idx ak (ar:Int)).bind λad=>(bif decide (ab.cR<=ad.To)&&decide (ad.cR<=ab.To)then((hU N ab).bind λav=>(hU N ad).bind λaw=>(uM N av aw).bind λax=>some<|ax==0)else some false).bind λay=>bif ay then some (.rt (none,12))else(some<|.nx ()):Option (Fl Unit<|Option (List (List aH)×List aH×List bR×List cS×List (List aA)×List aF×List (List Int)×List cF×List Int×List Int×List Int×List dK)×Int))) ()).bind λaz=>az.cs (λ(au:Unit)=>some<|.nx ()) (λr=>some<|.rt r):Option (Fl Unit<|Option (List (List aH)×List aH×List bR×List cS×List (List aA)×List aF×List (List Int)×List cF×List Int×List Int×List Int×List dK)×Int))) ()).bind λa0=>a0.cs (λ(aq:Unit)=>(kZ N p0.aK p0.aN ([]:List (List aA)) ([]:List aF)).bind λj=>bif(!j.1)then some (none,2)else((k6 N p0.aN j.2.2 ([]:List (List Int))).bind λal=>(gV N p0.aN p0.bJ j.2.2 al ([]:List Int) ([]:List Int) ([]:List Int) ([]:List dK)).bind λo=>some (some (p0.aK,p0.cJ,p0.aN,p0.bJ,j.2.1,j.2.2,al,o.1,o.2.1,o.2.2.1,o.2.2.2.1,o.2.2.2.2),0)))<|λr=>some r)))))<|λr=>some r))
def gH(N:Nat)(p0:List cS)(p1:dQ)(p2:cS->dQ->Option Int):Option (Int×Bool):=
 (jg (λ(j:Int×Int)=>(bif decide (j.1<j.2)then((idx p0<|wrap .i64<|Int.fdiv (wrap .u64<|wrap .i64<|j.1+j.2) 2).bind λaa=>(p2 aa p1).bind λab=>(bif decide (ab<0)then some (wrap .i64<|wrap .i64 (Int.fdiv (wrap .u64<|wrap .i64<|j.1+j.2) 2)+1,j.2)else some (j.1,wrap .i64<|Int.fdiv (wrap .u64<|wrap .i64<|j.1+j.2) 2)).bind λo=>some<|.nx (o.1,o.2))else(some<|.br (j.1,j.2)):Option (Fl (Int×Int) Empty))) N (0,(p0.length:Int))).bind λad=>ad.cs (λ(j:Int×Int)=>(bif decide (j.1<(p0.length:Int))then((idx p0 j.1).bind λae=>(p2 ae p1).bind λaf=>some<|af==0)else some false).bind λag=>some (j.1,ag))<|λr=>r.elim
def jN(N:Nat)(p0:cS)(p1:dQ):Option Int:=
 (mB N p0).bind λj=>(eT N j p1).bind λo=>some o
def fD(N:Nat)(p0:gQ)(p1:dQ):Option Int:=
 (gH N p0.bJ p1<|jN N).bind λj=>bif(!j.2)then some (-1)else some j.1
def s9(N:Nat)(p0:List Int):Option Int:=
 (tL p0.length (λ(o:Nat)(aa:Unit)=>((idx p0 (o:Int)).bind λj=>bif j != 0 then some (.rt j)else(some<|.nx ()):Option (Fl Unit Int))) ()).bind λab=>ab.cs (λ(aa:Unit)=>some 0)<|λr=>some r
def iT(N:Nat)(p0 p1:Test):Option Int:=
 (eT N p0.A p1.A).bind λj=>(eT N p0.B p1.B).bind λo=>(s9 N ([j,o]:List Int)).bind λaa=>some aa
def kz(N:Nat)(p0:gQ)(p1:List Test):Option (Option (List (List aH)×List aH×List bR×List cS×List (List aA)×List aF×List (List Int)×List cF×List Int×List Int×List Int×List dK)×Int):=
 (iA N p0).bind λo=>I9 o.1 (bif o.2 != 0 then some (none,o.2)else(bif decide ((p1.length:Int)>2000)then some (none,2)else((tL p1.length (λ(ad:Nat)(af:Unit)=>((idx p1 (ad:Int)).bind λaa=>((fD N p0 aa.A).bind λag=>bif decide (ag<0)then some true else((fD N p0 aa.B).bind λah=>some<|decide<|ah<0)).bind λai=>bif ai then some (.rt (none,9))else((eT N aa.B aa.A).bind λaj=>bif decide (aj<=0)then some (.rt (none,8))else((bif decide ((ad:Int)>0)then((idx p1<|wrap .i64<|(ad:Int) - 1).bind λak=>(iT N aa ak).bind λal=>some<|decide<|al<=0)else some false).bind λan=>bif an then some (.rt (none,8))else some (.nx ()))):Option (Fl Unit<|Option (List (List aH)×List aH×List bR×List cS×List (List aA)×List aF×List (List Int)×List cF×List Int×List Int×List Int×List dK)×Int))) ()).bind λao=>ao.cs (λ(af:Unit)=>some (none,0))<|λr=>some r))) (λ(j:(List (List aH)×List aH×List bR×List cS×List (List aA)×List aF×List (List Int)×List cF×List Int×List Int×List Int×List dK))=>bif o.2 != 0 then some (none,o.2)else(bif decide ((p1.length:Int)>2000)then some (none,2)else((tL p1.length (λ(ae:Nat)(aq:Unit)=>((idx p1 (ae:Int)).bind λab=>((fD N p0 ab.A).bind λar=>bif decide (ar<0)then some true else((fD N p0 ab.B).bind λau=>some<|decide<|au<0)).bind λav=>bif av then some (.rt (none,9))else((eT N ab.B ab.A).bind λaw=>bif decide (aw<=0)then some (.rt (none,8))else((bif decide ((ae:Int)>0)then((idx p1<|wrap .i64<|(ae:Int) - 1).bind λax=>(iT N ab ax).bind λay=>some<|decide<|ay<=0)else some false).bind λaz=>bif az then some (.rt (none,8))else some (.nx ()))):Option (Fl Unit<|Option (List (List aH)×List aH×List bR×List cS×List (List aA)×List aF×List (List Int)×List cF×List Int×List Int×List Int×List dK)×Int))) ()).bind λa0=>a0.cs (λ(aq:Unit)=>some (some (j.1,j.2.1,j.2.2.1,j.2.2.2.1,j.2.2.2.2.1,j.2.2.2.2.2.1,j.2.2.2.2.2.2.1,j.2.2.2.2.2.2.2.1,j.2.2.2.2.2.2.2.2.1,j.2.2.2.2.2.2.2.2.2.1,j.2.2.2.2.2.2.2.2.2.2.1,j.2.2.2.2.2.2.2.2.2.2.2),0))<|λr=>some r)))
def qt(N:Nat)(p0 p1 p2:Int):Option Bool:=
 some (decide (p0>=p1)&&decide (p0<=p2))
def iv(N:Nat)(p0:Int)(p1h_5:List aF):Option Bool:=
 (qt N p0 0<|wrap .i64<|(p1h_5.length:Int) - 1).bind λj=>some j
def qu(N:Nat)(p0:List dX)(p1:dX):Option Int:=
 (tL p0.length (λ(j:Nat)(o:Unit)=>((idx p0 (j:Int)).bind λaa=>bif decide (p1=aa)then some (.rt (j:Int))else(some<|.nx ()):Option (Fl Unit Int))) ()).bind λab=>ab.cs (λ(o:Unit)=>some<|-1)<|λr=>some r
def ka(N:Nat)(p0:List dX)(p1:dX):Option Bool:=
 (qu N p0 p1).bind λj=>some<|decide<|j>=0
def jO(N:Nat)(p0_0:List (List aH))(p0_1:List aH)(p0_2:List bR)(p0_3:List cS)(p0_4:List (List aA))(p0_5:List aF)(p0_6:List (List Int))(p0_7:List cF)(p0_8:List Int)(p0_9:List Int)(p0_10:List Int)(p0_11:List dK)(p1:List dX):Option Int:=
 bif decide ((p1.length:Int)>20)then some 2 else((tL p1.length (λ(o:Nat)(aa:Unit)=>((idx p1 (o:Int)).bind λj=>(bif j.Open&&((j.A != 0)||(j.B != 0))then some true else(bif(!j.Open)then some (!(decide<|j.dK=(⟨false,0⟩:dK)))else some false)).bind λab=>bif ab then some (.rt 3)else(((iv N j.A p0_5).bind λad=>bif ad then((iv N j.B p0_5).bind λae=>some ae)else some false).bind λaf=>(bif j.Open then((iv N j.dK.Number p0_5).bind λag=>some ag)else some af).bind λah=>(bif j.Open&&j.dK.bR then(((qt N j.dK.Number 0<|wrap .i64<|(p0_2.length:Int) - 1).bind λai=>bif ai then((idx p0_2 j.dK.Number).bind λaj=>some aj.eN)else some false).bind λak=>some ak)else some ah).bind λal=>bif(!al)then some (.rt 9)else(bif(!j.Open)&&decide (j.B<=j.A)then some (.rt 8)else((uj p1 0 (o:Int)).bind λan=>(ka N an j).bind λao=>bif ao then some (.rt 7)else some (.nx ())))):Option (Fl Unit Int))) ()).bind λaq=>aq.cs (λ(aa:Unit)=>some 0)<|λr=>some r)
def iX(N:Nat)(p0:dK)(p1:Int):Option Int:=
 bif p0.bR then some (wrap .i64<|p1+p0.Number)else some p0.Number
def jP(N:Nat)(p0 p1:Int)(p2_0:List (Int×Bool))(p3h_0:List Int):Option (List Int):=
 (bif(!(fB p2_0 p0 (false:Bool)))then some (!(fB p2_0 p1 (false:Bool)))else some false).bind λj=>(bif j then((fC N p3h_0 p0 p1).bind λo=>some o)else some p3h_0).bind λaa=>some aa
def eU(N:Nat)(p0_2:List bR)(p0_3:List cS)(p0_5:List aF)(p0_6:List (List Int))(p0_10:List Int)(p0_11:List dK)(p1:List dX):Option (List Int):=
 (mx p1.length (λ(ao:Nat)(aa:List (Int×Bool))=>((idx p1 (ao:Int)).bind λai=>(bif ai.Open then((iX N ai.dK (p0_5.length:Int)).bind λaq=>some<|rp aa aq true)else some aa).bind λar=>some ar:Option (List<|Int×Bool))) ([]:List (Int×Bool))).bind λaa=>(kR N<|wrap .i64<|(p0_5.length:Int)+(p0_2.length:Int)).bind λau=>(mx p0_6.length (λ(aj:Nat)(ae:List Int)=>((idx p0_6 (aj:Int)).bind λak=>(mx ak.length (λ(av:Nat)(af:List Int)=>((idx ak (av:Int)).bind λaw=>(jP N aw (wrap .i64<|(p0_5.length:Int)+(aj:Int)) aa af).bind λax=>some ax:Option (List Int))) ae).bind λaf=>some af:Option (List Int))) au).bind λae=>(mx p1.length (λ(ay:Nat)(ab:List Int)=>((idx p1 (ay:Int)).bind λy7=>(bif(!y7.Open)then((jP N y7.A y7.B aa ab).bind λaz=>some az)else some ab).bind λa0=>some a0:Option (List Int))) ae).bind λab=>(mk 8 (0:Int) (p0_3.length:Int)).bind λCR=>(mx p0_11.length (λ(o:Nat)(j:List Int×List (Int×Int)×List Int)=>((idx p0_11 (o:Int)).bind λa1=>(iX N a1 (p0_5.length:Int)).bind λad=>((idx p0_10 (o:Int)).bind λa2=>bif decide (a2<0)then some true else some (fB aa ad (false:Bool))).bind λa3=>bif a3 then((idx j.2.2 (o:Int)).bind λa4=>some (j.1,j.2.1,j.2.2.set (Int.toNat (o:Int))<|-1))else((fu N j.1 ad).bind λag=>(bif(!(lV j.2.1 ag.1))then((fu N ag.2 ad).bind λal=>some (al.2,rp j.2.1 al.1 (o:Int)))else some (ag.2,j.2.1)).bind λah=>(fu N ah.1 ad).bind λan=>(idx j.2.2 (o:Int)).bind λa5=>some (an.2,ah.2,j.2.2.set (Int.toNat (o:Int))<|fB ah.2 an.1 (0:Int))):Option (List Int×List (Int×Int)×List Int))) (ab,([]:List (Int×Int)),CR)).bind λj=>some j.2.2
def ru(N:Nat)(p0_0:List (List aH))(p0_1:List aH)(p0_2:List bR)(p0_3:List cS)(p0_5:List aF)(p0_6:List (List Int))(p0_10:List Int)(p0_11:List dK)(p1:List Test)(p2:List dX):Option (List Bool):=
 (eU N p0_2 p0_3 p0_5 p0_6 p0_10 p0_11 p2).bind λo=>(mx p1.length (λ(ad:Nat)(j:List Bool)=>((idx p1 (ad:Int)).bind λaa=>(fD N (⟨p0_0,p0_1,p0_2,p0_3⟩:gQ) aa.A).bind λab=>(fD N (⟨p0_0,p0_1,p0_2,p0_3⟩:gQ) aa.B).bind λae=>((idx o ab).bind λaf=>bif decide (af>=0)then((idx o ab).bind λag=>(idx o ae).bind λah=>(app 1 j ([ag==ah]:List Bool)).bind λai=>some ai)else((app 1 j ([false]:List Bool)).bind λaj=>some aj)).bind λak=>some ak:Option (List Bool))) ([]:List Bool)).bind λj=>some j
def gw(N:Nat)(p0:gQ)(p1:List Test)(p2:List dX):Option (List Bool×Int):=
 (kz N p0 p1).bind λo=>I9 o.1 (bif o.2 != 0 then some (([]:List Bool),o.2)else none) (λ(j:(List (List aH)×List aH×List bR×List cS×List (List aA)×List aF×List (List Int)×List cF×List Int×List Int×List Int×List dK))=>bif o.2 != 0 then some (([]:List Bool),o.2)else((jO N j.1 j.2.1 j.2.2.1 j.2.2.2.1 j.2.2.2.2.1 j.2.2.2.2.2.1 j.2.2.2.2.2.2.1 j.2.2.2.2.2.2.2.1 j.2.2.2.2.2.2.2.2.1 j.2.2.2.2.2.2.2.2.2.1 j.2.2.2.2.2.2.2.2.2.2.1 j.2.2.2.2.2.2.2.2.2.2.2 p2).bind λaa=>bif aa != 0 then some (([]:List Bool),aa)else((ru N j.1 j.2.1 j.2.2.1 j.2.2.2.1 j.2.2.2.2.2.1 j.2.2.2.2.2.2.1 j.2.2.2.2.2.2.2.2.2.2.1 j.2.2.2.2.2.2.2.2.2.2.2 p1 p2).bind λab=>some (ab,0))))
def nT(N:Nat)(p0 p1 p2:Int):Option Bool:=
 some (decide (p0>=p1)&&decide (p0<=p2))
def cU(N:Nat)(p0:Int):Option Bool:=
 (nT N p0 (-1000000) 1000000).bind λj=>some j
def iI(N:Nat)(p0:List aH):Option Int:=
 bif decide ((p0.length:Int)>2000)then some 2 else((jg (λ(o:Int)=>(bif decide (o<(p0.length:Int))then((idx p0 o).bind λj=>((cU N j.X0).bind λaa=>bif(!aa)then some true else((cU N j.Y0).bind λab=>bif(!ab)then some true else((cU N j.X1).bind λad=>bif(!ad)then some true else((cU N j.Y1).bind λae=>some<|!ae)))).bind λaf=>bif af then some (.rt 1)else(bif decide (j.X1<=j.X0)||decide (j.Y1<=j.Y0)then some (.rt 13)else some (.nx<|wrap .i64<|o+1)))else(some<|.br o):Option (Fl Int Int))) N 0).bind λag=>ag.cs (λ(o:Int)=>some 0)<|λr=>some r)
def iY(N:Nat)(p0 p1:aH):Option Bool:=
 some (decide (p0.Y0<p1.Y0)||((p0.Y0==p1.Y0)&&decide (p0.X0<p1.X0)))
def fV(N:Nat)(p0:List Int)(p1:Int):Option (List Int):=
 (jg (λ(j:Int×Int)=>(bif decide (j.1<j.2)then((idx p0<|wrap .i64<|Int.tdiv (wrap .i64<|j.1+j.2) 2).bind λaa=>(bif decide (aa<p1)then some (wrap .i64<|wrap .i64 (Int.tdiv (wrap .i64<|j.1+j.2) 2)+1,j.2)else some (j.1,wrap .i64<|Int.tdiv (wrap .i64<|j.1+j.2) 2)).bind λo=>some<|.nx (o.1,o.2))else(some<|.br (j.1,j.2)):Option (Fl (Int×Int) Empty))) N (0,(p0.length:Int))).bind λab=>ab.cs (λ(j:Int×Int)=>(bif decide (j.1<(p0.length:Int))then((idx p0 j.1).bind λad=>some<|ad==p1)else some false).bind λae=>bif ae then some p0 else((uj p0 0 j.1).bind λaf=>(app 8 ([]:List Int) af).bind λag=>(app 8 ag ([p1]:List Int)).bind λah=>(uj p0 j.1 (p0.length:Int)).bind λai=>(app 8 ah ai).bind λaj=>some aj))<|λr=>r.elim
def iE(N:Nat)(p0:List aH):Option (List Int):=
 (jg (λ(j:List Int×Int)=>(bif decide (j.2<(p0.length:Int))then((idx p0 j.2).bind λo=>(idx p0 j.2).bind λaa=>(fV N j.1 o.Y0).bind λab=>(fV N ab aa.Y1).bind λad=>some<|.nx (ad,wrap .i64<|j.2+1))else(some<|.br (j.1,j.2)):Option (Fl (List Int×Int) Empty))) N (([]:List Int),0)).bind λae=>ae.cs (λ(j:List Int×Int)=>some j.1)<|λr=>r.elim
def iZ(N:Nat)(p0:List aD)(p1:aD):Option (List aD):=
 (jg (λ(o:List aD×Int)=>((bif decide (o.2<(p0.length:Int))then((idx p0 o.2).bind λab=>some<|decide<|ab.to<p1.from_)else some false).bind λad=>bif ad then((idx p0 o.2).bind λae=>(app 16 o.1 ([ae]:List aD)).bind λaf=>some<|.nx (af,wrap .i64<|o.2+1))else(some<|.br (o.1,o.2)):Option (Fl (List aD×Int) Empty))) N (([]:List aD),0)).bind λag=>ag.cs (λ(o:List aD×Int)=>(jg (λ(j:aD×Int)=>((bif decide (j.2<(p0.length:Int))then((idx p0 j.2).bind λah=>some<|decide<|ah.from_<=j.1.to)else some false).bind λai=>bif ai then((idx p0 j.2).bind λy8=>(idx p0 j.2).bind λaa=>some<|.nx ({{j.1 with from_:=(if y8.from_<j.1.from_ then y8.from_ else j.1.from_)}with to:=(if j.1.to<aa.to then aa.to else j.1.to)},wrap .i64<|j.2+1))else(some<|.br (j.1,j.2)):Option (Fl (aD×Int) Empty))) N (p1,o.2)).bind λaj=>aj.cs (λ(j:aD×Int)=>(app 16 o.1 ([j.1]:List aD)).bind λak=>(uj p0 j.2 (p0.length:Int)).bind λal=>(app 16 ak al).bind λan=>some an)<|λr=>r.elim)<|λr=>r.elim
def iB(N:Nat)(p0:List aH)(p1:Int):Option (List aD):=
 (jg (λ(j:List aD×Int)=>(bif decide (j.2<(p0.length:Int))then(((idx p0 j.2).bind λo=>bif decide (o.Y0<=p1)then((idx p0 j.2).bind λy8=>some<|decide<|p1<y8.Y1)else some false).bind λaa=>(bif aa then((idx p0 j.2).bind λab=>(idx p0 j.2).bind λad=>(iZ N j.1 (⟨ab.X0,ad.X1⟩:aD)).bind λae=>some ae)else some j.1).bind λaf=>some<|.nx (af,wrap .i64<|j.2+1))else(some<|.br (j.1,j.2)):Option (Fl (List aD×Int) Empty))) N (([]:List aD),0)).bind λag=>ag.cs (λ(j:List aD×Int)=>some j.1)<|λr=>r.elim
def kl(N:Nat)(p0:List aD)(p1:List aD):Option Bool:=
 bif(p0.length:Int) != (p1.length:Int)then some false else((jg (λ(j:Int)=>(bif decide (j<(p0.length:Int))then((idx p0 j).bind λo=>(idx p1 j).bind λaa=>bif(!(decide<|o=aa))then some (.rt false)else some (.nx<|wrap .i64<|j+1))else(some<|.br j):Option (Fl Int Bool))) N 0).bind λab=>ab.cs (λ(j:Int)=>some true)<|λr=>some r)
def gA(N:Nat)(p0:List aO)(p1:aO):Option (List aO):=
 bif(p1.jY.length:Int)==0 then some p0 else((bif decide ((p0.length:Int)>0)then((idx p0<|wrap .i64<|(p0.length:Int) - 1).bind λj=>bif j.to==p1.from_ then((idx p0<|wrap .i64<|(p0.length:Int) - 1).bind λo=>(kl N o.jY p1.jY).bind λaa=>some aa)else some false)else some false).bind λab=>bif ab then((idx p0<|wrap .i64<|(p0.length:Int) - 1).bind λad=>some<|p0.set (Int.toNat<|wrap .i64<|(p0.length:Int) - 1)<|{ad with to:=p1.to})else((app 40 p0 ([p1]:List aO)).bind λae=>some ae))
def jQ(N:Nat)(p0:List aO):Option (List aH):=
 (jg (λ(j:List aH×Int)=>(bif decide (j.2<(p0.length:Int))then((jg (λ(o:List aH×Int)=>((idx p0 j.2).bind λaa=>bif decide (o.2<(aa.jY.length:Int))then((idx p0 j.2).bind λab=>(idx ab.jY o.2).bind λad=>(idx p0 j.2).bind λae=>(idx p0 j.2).bind λaf=>(idx af.jY o.2).bind λag=>(idx p0 j.2).bind λah=>(app 32 o.1 ([(⟨ad.from_,ae.from_,ag.to,ah.to⟩:aH)]:List aH)).bind λai=>some<|.nx (ai,wrap .i64<|o.2+1))else(some<|.br (o.1,o.2)):Option (Fl (List aH×Int) Empty))) N (j.1,0)).bind λaj=>aj.cs (λ(o:List aH×Int)=>some<|.nx (o.1,wrap .i64<|j.2+1))<|λr=>r.elim)else(some<|.br (j.1,j.2)):Option (Fl (List aH×Int) Empty))) N (([]:List aH),0)).bind λak=>ak.cs (λ(j:List aH×Int)=>some j.1)<|λr=>r.elim
def fR(N:Nat)(p0:List aH):Option (List aH):=
 (iE N p0).bind λo=>(jg (λ(j:List aO×Int)=>(bif decide (j.2<(o.length:Int))then((idx o<|wrap .i64<|j.2 - 1).bind λaa=>(idx o j.2).bind λab=>(idx o<|wrap .i64<|j.2 - 1).bind λad=>(iB N p0 ad).bind λae=>(gA N j.1 (⟨aa,ab,ae⟩:aO)).bind λaf=>some<|.nx (af,wrap .i64<|j.2+1))else(some<|.br (j.1,j.2)):Option (Fl (List aO×Int) Empty))) N (([]:List aO),1)).bind λag=>ag.cs (λ(j:List aO×Int)=>(jQ N j.1).bind λah=>some ah)<|λr=>r.elim
def km(N:Nat)(p0:List aH)(p1:List aH):Option Bool:=
 bif(p0.length:Int) != (p1.length:Int)then some false else((jg (λ(j:Int)=>(bif decide (j<(p0.length:Int))then((idx p0 j).bind λo=>(idx p1 j).bind λaa=>bif(!(decide<|o=aa))then some (.rt false)else some (.nx<|wrap .i64<|j+1))else(some<|.br j):Option (Fl Int Bool))) N 0).bind λab=>ab.cs (λ(j:Int)=>some true)<|λr=>some r)
def fX(N:Nat)(p0:List aH):Option Int:=
 (iI N p0).bind λo=>bif o != 0 then some o else((jg (λ(j:Int)=>(bif decide (j<(p0.length:Int))then((idx p0<|wrap .i64<|j - 1).bind λaa=>(idx p0 j).bind λab=>(iY N aa ab).bind λad=>bif(!ad)then some (.rt 8)else some (.nx<|wrap .i64<|j+1))else(some<|.br j):Option (Fl Int Int))) N 1).bind λae=>ae.cs (λ(j:Int)=>(fR N p0).bind λaf=>(km N p0 af).bind λag=>bif(!ag)then some 3 else some 0)<|λr=>some r)
def eI(N:Nat)(p0 p1 p2:Int):Option Bool:=
 some (decide (p0>=p1)&&decide (p0<=p2))
def gC(N:Nat)(p0:jX):Option Bool:=
 ((cU N p0.X).bind λj=>bif j then((cU N p0.Y).bind λo=>some o)else some false).bind λaa=>some aa
def cN(N:Nat)(p0:bR):Option aH:=
 some (⟨wrap .i64<|p0.At.X -(wrap .i64<|Int.tdiv p0.dT 2),wrap .i64<|p0.At.Y -(wrap .i64<|Int.tdiv p0.dT 2),wrap .i64<|wrap .i64 (p0.At.X -(wrap .i64<|Int.tdiv p0.dT 2))+p0.dT,wrap .i64<|wrap .i64 (p0.At.Y -(wrap .i64<|Int.tdiv p0.dT 2))+p0.dT⟩:aH)
def iq(N:Nat)(p0:bR):Option Int:=
 ((eI N p0.dT 1 10000).bind λo=>bif(!o)then some true else((gC N p0.At).bind λaa=>some<|!aa)).bind λab=>bif ab then some 1 else((cN N p0).bind λj=>((cU N j.X0).bind λad=>bif(!ad)then some true else((cU N j.Y0).bind λae=>bif(!ae)then some true else((cU N j.X1).bind λaf=>bif(!af)then some true else((cU N j.Y1).bind λag=>some<|!ag)))).bind λah=>bif ah then some 1 else some 0)
def gW(N:Nat)(p0:eJ):Option Bool:=
 (jg (λ(o:Int)=>(bif decide (o<(p0.dL.length:Int))then((Ia p0 o).bind λj=>(bif(!(((decide ((j.toNat:Int)>=97)&&decide ((j.toNat:Int)<=122))||(decide ((j.toNat:Int)>=65)&&decide ((j.toNat:Int)<=90)))||(decide ((j.toNat:Int)>=48)&&decide ((j.toNat:Int)<=57))))then((iz N (⟨[95,43,45,35]⟩) (j.toNat:Int)).bind λaa=>some<|decide<|aa<0)else some false).bind λab=>bif ab then some (.rt false)else some (.nx<|wrap .i64<|o+1))else(some<|.br o):Option (Fl Int Bool))) N 0).bind λad=>ad.cs (λ(o:Int)=>(eI N (p0.dL.length:Int) 1 40).bind λae=>some ae)<|λr=>some r
def kb(N:Nat)(p0:eJ):Option Bool:=
 (m8 N p0<|⟨[47]⟩).bind λo=>(jg (λ(j:Int)=>(bif decide (j<(o.length:Int))then((idx o j).bind λaa=>(gW N aa).bind λab=>bif(!ab)then some (.rt false)else some (.nx<|wrap .i64<|j+1))else(some<|.br j):Option (Fl Int Bool))) N 0).bind λad=>ad.cs (λ(j:Int)=>some<|decide<|(p0.dL.length:Int)<=200)<|λr=>some r
def i5(N:Nat)(p0:gQ)(p1:Int):Option Int:=
 (idx p0.bJ p1).bind λj=>((kb N j.Part).bind λaa=>bif(!aa)then some true else((gW N j.dQ).bind λab=>some<|!ab)).bind λad=>bif ad then some 5 else(((eI N j.dN 0<|wrap .i64<|(p0.aK.length:Int) - 1).bind λae=>bif(!ae)then some true else((gC N j.At).bind λaf=>some<|!af)).bind λag=>bif ag then some 1 else(bif decide (p1>0)then((idx p0.bJ<|wrap .i64<|p1 - 1).bind λo=>bif j.Part.nI o.Part||(j.Part.o6 o.Part&&(j.dQ.nI o.dQ||j.dQ.o6 o.dQ))then some 8 else some 0)else some 0))
def iJ(N:Nat)(p0:gQ):Option Int:=
 bif(p0.aK.length:Int)==0 then some 9 else(bif decide ((p0.aK.length:Int)>16)then some 2 else((jg (λ(j:Int×Int)=>(bif decide (j.2<(p0.aK.length:Int))then((idx p0.aK j.2).bind λah=>(fX N ah).bind λad=>bif ad != 0 then some (.rt ad)else((idx p0.aK j.2).bind λai=>some<|.nx (wrap .i64<|j.1+(ai.length:Int),wrap .i64<|j.2+1)))else(some<|.br (j.1,j.2)):Option (Fl (Int×Int) Int))) N ((p0.cJ.length:Int),0)).bind λaj=>aj.cs (λ(j:Int×Int)=>(fX N p0.cJ).bind λae=>bif ae != 0 then some ae else((bif decide (j.1>2000)then some true else some (decide<|(p0.aN.length:Int)>500)).bind λak=>bif ak then some 2 else((jg (λ(o:Int)=>(bif decide (o<(p0.aN.length:Int))then((idx p0.aN o).bind λab=>(iq N ab).bind λaf=>bif af != 0 then some (.rt af)else(((eI N ab.cR 0<|wrap .i64<|(p0.aK.length:Int) - 1).bind λal=>bif(!al)then some true else((eI N ab.To ab.cR<|wrap .i64<|(p0.aK.length:Int) - 1).bind λan=>some<|!an)).bind λao=>bif ao then some (.rt 1)else some (.nx<|wrap .i64<|o+1)))else(some<|.br o):Option (Fl Int Int))) N 0).bind λaq=>aq.cs (λ(o:Int)=>bif decide ((p0.bJ.length:Int)>1000)then some 2 else((jg (λ(aa:Int)=>(bif decide (aa<(p0.bJ.length:Int))then((i5 N p0 aa).bind λag=>bif ag != 0 then some (.rt ag)else some (.nx<|wrap .i64<|aa+1))else(some<|.br aa):Option (Fl Int Int))) N 0).bind λar=>ar.cs (λ(aa:Int)=>some 0)<|λr=>some r))<|λr=>some r)))<|λr=>some r))
def i6(N:Nat)(p0 p1:bR):Option Bool:=
 some (decide (p0.cR<=p1.To)&&decide (p1.cR<=p0.To))
def gD(N:Nat)(p0 p1:aH):Option Bool:=
 (bif decide ((if p1.X1<p0.X1 then p1.X1 else p0.X1)>(if p0.X0<p1.X0 then p1.X0 else p0.X0))then some (decide<|(if p1.Y1<p0.Y1 then p1.Y1 else p0.Y1)>(if p0.Y0<p1.Y0 then p1.Y0 else p0.Y0))else some false).bind λj=>some j
def fL(N:Nat)(p0:bR)(p1:Int):Option Bool:=
 some (decide (p0.cR<=p1)&&decide (p1<=p0.To))
def gX(N:Nat)(p0:List aD)(p1:Int):Option Bool:=
 (jg (λ(j:Int)=>(bif decide (j<(p0.length:Int))then(((idx p0 j).bind λo=>bif decide (o.from_<=p1)then((idx p0 j).bind λaa=>some<|decide<|p1<aa.to)else some false).bind λab=>bif ab then some (.rt true)else some (.nx<|wrap .i64<|j+1))else(some<|.br j):Option (Fl Int Bool))) N 0).bind λad=>ad.cs (λ(j:Int)=>some false)<|λr=>some r
def kD(N:Nat)(p0:List aD)(p1:List aD)(p2:Int):Option (List aD):=
 (jg (λ(aa:List Int×Int)=>(bif decide (aa.2<(p0.length:Int))then((idx p0 aa.2).bind λae=>(idx p0 aa.2).bind λaf=>(fV N aa.1 ae.from_).bind λag=>(fV N ag af.to).bind λah=>some<|.nx (ah,wrap .i64<|aa.2+1))else(some<|.br (aa.1,aa.2)):Option (Fl (List Int×Int) Empty))) N (([]:List Int),0)).bind λai=>ai.cs (λ(aa:List Int×Int)=>(jg (λ(j:List Int×Int)=>(bif decide (j.2<(p1.length:Int))then((idx p1 j.2).bind λaj=>(idx p1 j.2).bind λak=>(fV N j.1 aj.from_).bind λal=>(fV N al ak.to).bind λan=>some<|.nx (an,wrap .i64<|j.2+1))else(some<|.br (j.1,j.2)):Option (Fl (List Int×Int) Empty))) N (aa.1,0)).bind λao=>ao.cs (λ(j:List Int×Int)=>(jg (λ(o:List aD×Int)=>(bif decide (o.2<(j.1.length:Int))then((idx j.1<|wrap .i64<|o.2 - 1).bind λaq=>(idx j.1<|wrap .i64<|o.2 - 1).bind λar=>(gX N p0 aq).bind λab=>(gX N p1 ar).bind λad=>(bif(((p2==1)&&(ab||ad))||(((p2==2)&&ab)&&ad))||(((p2==3)&&ab)&&(!ad))then((idx j.1<|wrap .i64<|o.2 - 1).bind λCR=>(idx j.1 o.2).bind λau=>(iZ N o.1 (⟨CR,au⟩:aD)).bind λav=>some av)else some o.1).bind λaw=>some<|.nx (aw,wrap .i64<|o.2+1))else(some<|.br (o.1,o.2)):Option (Fl (List aD×Int) Empty))) N (([]:List aD),1)).bind λax=>ax.cs (λ(o:List aD×Int)=>some o.1)<|λr=>r.elim)<|λr=>r.elim)<|λr=>r.elim
def ig(N:Nat)(p0:List aH)(p1:List aH)(p2:Int):Option (List aH):=
 (app 32 ([]:List aH) p0).bind λaa=>(app 32 aa p1).bind λab=>(iE N ab).bind λo=>(jg (λ(j:List aO×Int)=>(bif decide (j.2<(o.length:Int))then((idx o<|wrap .i64<|j.2 - 1).bind λad=>(idx o j.2).bind λae=>(idx o<|wrap .i64<|j.2 - 1).bind λaf=>(idx o<|wrap .i64<|j.2 - 1).bind λag=>(iB N p0 af).bind λah=>(iB N p1 ag).bind λai=>(kD N ah ai p2).bind λaj=>(gA N j.1 (⟨ad,ae,aj⟩:aO)).bind λak=>some<|.nx (ak,wrap .i64<|j.2+1))else(some<|.br (j.1,j.2)):Option (Fl (List aO×Int) Empty))) N (([]:List aO),1)).bind λal=>al.cs (λ(j:List aO×Int)=>(jQ N j.1).bind λan=>some an)<|λr=>r.elim
def lr(N:Nat)(p0:List aH)(p1:List aH):Option (List aH):=
 (ig N p0 p1 3).bind λj=>some j
def gM(N:Nat)(p0:gQ)(p1:Int):Option (List aH):=
 (jg (λ(j:List aH×Int)=>(bif decide (j.2<(p0.aN.length:Int))then((idx p0.aN j.2).bind λo=>(fL N o p1).bind λaa=>(bif aa then((idx p0.aN j.2).bind λab=>(cN N ab).bind λad=>(app 32 j.1 ([ad]:List aH)).bind λae=>some ae)else some j.1).bind λaf=>some<|.nx (af,wrap .i64<|j.2+1))else(some<|.br (j.1,j.2)):Option (Fl (List aH×Int) Empty))) N (([]:List aH),0)).bind λag=>ag.cs (λ(j:List aH×Int)=>(idx p0.aK p1).bind λah=>(fR N j.1).bind λai=>(lr N ah ai).bind λaj=>some aj)<|λr=>r.elim
def jz(N:Nat)(p0 p1:aH):Option Bool:=
 some ((decide (wrap .i64 ((if p1.X1<p0.X1 then p1.X1 else p0.X1) -(if p0.X0<p1.X0 then p1.X0 else p0.X0))>0)&&decide (wrap .i64 ((if p1.Y1<p0.Y1 then p1.Y1 else p0.Y1) -(if p0.Y0<p1.Y0 then p1.Y0 else p0.Y0))>=0))||(decide (wrap .i64 ((if p1.X1<p0.X1 then p1.X1 else p0.X1) -(if p0.X0<p1.X0 then p1.X0 else p0.X0))>=0)&&decide (wrap .i64 ((if p1.Y1<p0.Y1 then p1.Y1 else p0.Y1) -(if p0.Y0<p1.Y0 then p1.Y0 else p0.Y0))>0)))
def kc(N:Nat)(p0:List (List aH))(p1:List aH):Option (List<|List aH):=
 (jg (λ(j:Int)=>((bif decide (j>0)then((idx p1 0).bind λo=>(idx p0<|wrap .i64<|j - 1).bind λaa=>(idx aa 0).bind λab=>(iY N o ab).bind λad=>some ad)else some false).bind λae=>bif ae then some (.nx<|wrap .i64<|j - 1)else(some<|.br j):Option (Fl Int Empty))) N (p0.length:Int)).bind λaf=>af.cs (λ(j:Int)=>(uj p0 0 j).bind λag=>(app 24 ([]:List (List aH)) ag).bind λah=>(app 24 ah ([p1]:List (List aH))).bind λai=>(uj p0 j (p0.length:Int)).bind λaj=>(app 24 ai aj).bind λak=>some ak)<|λr=>r.elim
def gh(N:Nat)(p0:List aH):Option (List<|List aH):=
 (mk 1 (false:Bool) (p0.length:Int)).bind λad=>(jg (λ(o:List Bool×List (List aH)×Int)=>(bif decide (o.2.2<(p0.length:Int))then((idx o.1 o.2.2).bind λae=>bif ae then some (.nx (o.1,o.2.1,wrap .i64<|o.2.2+1))else((idx o.1 o.2.2).bind λaw=>(idx p0 o.2.2).bind λaf=>(jg (λ(aa:List Bool×List aH×Int)=>(bif decide (aa.2.2<(aa.2.1.length:Int))then((jg (λ(j:List Bool×List aH×Int)=>(bif decide (j.2.2<(p0.length:Int))then(((idx j.1 j.2.2).bind λag=>bif(!ag)then((idx j.2.1 aa.2.2).bind λah=>(idx p0 j.2.2).bind λai=>(jz N ah ai).bind λaj=>some aj)else some false).bind λak=>(bif ak then((idx j.1 j.2.2).bind λax=>(idx p0 j.2.2).bind λal=>(app 32 j.2.1 ([al]:List aH)).bind λan=>some (j.1.set (Int.toNat j.2.2) true,an))else some (j.1,j.2.1)).bind λab=>some<|.nx (ab.1,ab.2,wrap .i64<|j.2.2+1))else(some<|.br (j.1,j.2.1,j.2.2)):Option (Fl (List Bool×List aH×Int) Empty))) N (aa.1,aa.2.1,0)).bind λao=>ao.cs (λ(j:List Bool×List aH×Int)=>some<|.nx (j.1,j.2.1,wrap .i64<|aa.2.2+1))<|λr=>r.elim)else(some<|.br (aa.1,aa.2.1,aa.2.2)):Option (Fl (List Bool×List aH×Int) Empty))) N (o.1.set (Int.toNat o.2.2) true,([af]:List aH),0)).bind λaq=>aq.cs (λ(aa:List Bool×List aH×Int)=>(fR N aa.2.1).bind λar=>(kc N o.2.1 ar).bind λau=>some<|.nx (aa.1,au,wrap .i64<|o.2.2+1))<|λr=>r.elim))else(some<|.br (o.1,o.2.1,o.2.2)):Option (Fl (List Bool×List (List aH)×Int) Empty))) N (ad,([]:List (List aH)),0)).bind λav=>av.cs (λ(o:List Bool×List (List aH)×Int)=>some o.2.1)<|λr=>r.elim
def dA(N:Nat)(p0:gQ):Option Int:=
 (iJ N p0).bind λab=>bif ab != 0 then some ab else((jg (λ(o:Int)=>(bif decide (o<(p0.aN.length:Int))then((jg (λ(aa:Int)=>(bif decide (aa<o)then(((idx p0.aN o).bind λae=>(idx p0.aN aa).bind λaf=>(i6 N ae af).bind λag=>bif ag then((idx p0.aN o).bind λah=>(idx p0.aN aa).bind λai=>(cN N ah).bind λaj=>(cN N ai).bind λak=>(gD N aj ak).bind λal=>some al)else some false).bind λan=>bif an then some (.rt 12)else some (.nx<|wrap .i64<|aa+1))else(some<|.br aa):Option (Fl Int Int))) N 0).bind λao=>ao.cs (λ(aa:Int)=>some<|.nx<|wrap .i64<|o+1)<|λr=>some<|.rt r)else(some<|.br o):Option (Fl Int Int))) N 0).bind λaq=>aq.cs (λ(o:Int)=>(jg (λ(j:Int×Int)=>(bif decide (j.2<(p0.aK.length:Int))then((gM N p0 j.2).bind λad=>bif decide ((ad.length:Int)>2000)then some (.rt 2)else((gh N ad).bind λar=>some<|.nx (wrap .i64<|j.1+(ar.length:Int),wrap .i64<|j.2+1)))else(some<|.br (j.1,j.2)):Option (Fl (Int×Int) Int))) N (0,0)).bind λau=>au.cs (λ(j:Int×Int)=>bif decide (j.1>2000)then some 2 else some 0)<|λr=>some r)<|λr=>some r)
def eV(N:Nat)(p0:gQ)(p1:dQ):Option Int:=
 (jg (λ(j:Int)=>(bif decide (j<(p0.bJ.length:Int))then(((idx p0.bJ j).bind λo=>bif o.Part.o6 p1.Part then((idx p0.bJ j).bind λaa=>some<|aa.dQ.o6 p1.dQ)else some false).bind λab=>bif ab then some (.rt j)else some (.nx<|wrap .i64<|j+1))else(some<|.br j):Option (Fl Int Int))) N 0).bind λad=>ad.cs (λ(j:Int)=>some<|-1)<|λr=>some r
def iw(N:Nat)(p0 p1:dQ):Option Bool:=
 some (p0.Part.nI p1.Part||(p0.Part.o6 p1.Part&&p0.dQ.nI p1.dQ))
def i7(N:Nat)(p0 p1:Test):Option Bool:=
 ((iw N p0.A p1.A).bind λj=>bif j then some true else(bif decide (p0.A=p1.A)then((iw N p0.B p1.B).bind λo=>some o)else some false)).bind λaa=>some aa
def dC(N:Nat)(p0:gQ)(p1:List Test):Option Int:=
 (dA N p0).bind λo=>bif o != 0 then some o else(bif decide ((p1.length:Int)>2000)then some 2 else((jg (λ(j:Int)=>(bif decide (j<(p1.length:Int))then(((idx p1 j).bind λaa=>(eV N p0 aa.A).bind λab=>bif decide (ab<0)then some true else((idx p1 j).bind λad=>(eV N p0 ad.B).bind λae=>some<|decide<|ae<0)).bind λaf=>bif af then some (.rt 9)else(((idx p1 j).bind λag=>(idx p1 j).bind λah=>(iw N ag.A ah.B).bind λai=>bif(!ai)then some true else(bif decide (j>0)then((idx p1<|wrap .i64<|j - 1).bind λaj=>(idx p1 j).bind λak=>(i7 N aj ak).bind λal=>some<|!al)else some false)).bind λan=>bif an then some (.rt 8)else some (.nx<|wrap .i64<|j+1)))else(some<|.br j):Option (Fl Int Int))) N 0).bind λao=>ao.cs (λ(j:Int)=>some 0)<|λr=>some r))
def jR(N:Nat)(p0:List aH)(p1:aH):Option Bool:=
 (jg (λ(j:Int)=>(bif decide (j<(p0.length:Int))then((idx p0 j).bind λo=>(idx p0 j).bind λaa=>(idx p0 j).bind λab=>(idx p0 j).bind λad=>bif(decide (wrap .i64 ((if p1.X1<o.X1 then p1.X1 else o.X1) -(if aa.X0<p1.X0 then p1.X0 else aa.X0))>0)&&(wrap .i64 ((if p1.Y1<ab.Y1 then p1.Y1 else ab.Y1) -(if ad.Y0<p1.Y0 then p1.Y0 else ad.Y0))==0))||((wrap .i64 ((if p1.X1<o.X1 then p1.X1 else o.X1) -(if aa.X0<p1.X0 then p1.X0 else aa.X0))==0)&&decide (wrap .i64 ((if p1.Y1<ab.Y1 then p1.Y1 else ab.Y1) -(if ad.Y0<p1.Y0 then p1.Y0 else ad.Y0))>0))then some (.rt true)else some (.nx<|wrap .i64<|j+1))else(some<|.br j):Option (Fl Int Bool))) N 0).bind λae=>ae.cs (λ(j:Int)=>some false)<|λr=>some r
def cX(N:Nat)(p0:List Int)(p1:Int):Option Bool:=
 (jg (λ(j:Int)=>(bif decide (j<(p0.length:Int))then((idx p0 j).bind λo=>bif o==p1 then some (.rt true)else some (.nx<|wrap .i64<|j+1))else(some<|.br j):Option (Fl Int Bool))) N 0).bind λaa=>aa.cs (λ(j:Int)=>some false)<|λr=>some r
def i9(N:Nat)(p0:List Int)(p1:Int):Option (List Int):=
 (jg (λ(j:Int)=>((bif decide (j>0)then((idx p0<|wrap .i64<|j - 1).bind λo=>some<|decide<|o>p1)else some false).bind λaa=>bif aa then some (.nx<|wrap .i64<|j - 1)else(some<|.br j):Option (Fl Int Empty))) N (p0.length:Int)).bind λab=>ab.cs (λ(j:Int)=>(bif decide (j>0)then((idx p0<|wrap .i64<|j - 1).bind λad=>some<|ad==p1)else some false).bind λae=>bif ae then some p0 else((uj p0 0 j).bind λaf=>(app 8 ([]:List Int) af).bind λag=>(app 8 ag ([p1]:List Int)).bind λah=>(uj p0 j (p0.length:Int)).bind λai=>(app 8 ah ai).bind λaj=>some aj))<|λr=>r.elim
def gY(N:Nat)(p0_7:List (List Int))(p1:Int)(p2:List Bool):Option ((List Int×List Int×List dQ)×List Bool):=
 (idx p2 p1).bind λax=>(mk 1 (false:Bool) (p0_7.length:Int)).bind λae=>(jg (λ(o:List Bool×List Int×List Int×List Bool×List Int×Int)=>(bif decide (o.2.2.2.2.2<(o.2.2.2.2.1.length:Int))then((jg (λ(j:List Bool×List Int×List Int×List Bool×List Int×Int)=>(bif decide (j.2.2.2.2.2<(p0_7.length:Int))then(((idx j.2.2.2.1 j.2.2.2.2.2).bind λaf=>bif af then some true else((idx p0_7 j.2.2.2.2.2).bind λag=>(idx j.2.2.2.2.1 o.2.2.2.2.2).bind λah=>(cX N ag ah).bind λai=>some<|!ai)).bind λaj=>bif aj then some (.nx (j.1,j.2.1,j.2.2.1,j.2.2.2.1,j.2.2.2.2.1,wrap .i64<|j.2.2.2.2.2+1))else((idx j.2.2.2.1 j.2.2.2.2.2).bind λay=>(i9 N j.2.2.1 j.2.2.2.2.2).bind λak=>(jg (λ(aa:List Bool×List Int×List Int×Int)=>((idx p0_7 j.2.2.2.2.2).bind λal=>bif decide (aa.2.2.2<(al.length:Int))then((idx p0_7 j.2.2.2.2.2).bind λan=>(idx an aa.2.2.2).bind λab=>(idx aa.1 ab).bind λao=>(bif(!ao)then((idx aa.1 ab).bind λaz=>(i9 N aa.2.1 ab).bind λaq=>(app 8 aa.2.2.1 ([ab]:List Int)).bind λar=>some (aa.1.set (Int.toNat ab) true,aq,ar))else some (aa.1,aa.2.1,aa.2.2.1)).bind λad=>some<|.nx (ad.1,ad.2.1,ad.2.2,wrap .i64<|aa.2.2.2+1))else(some<|.br (aa.1,aa.2.1,aa.2.2.1,aa.2.2.2)):Option (Fl (List Bool×List Int×List Int×Int) Empty))) N (j.1,j.2.1,j.2.2.2.2.1,0)).bind λau=>au.cs (λ(aa:List Bool×List Int×List Int×Int)=>some<|.nx (aa.1,aa.2.1,ak,j.2.2.2.1.set (Int.toNat j.2.2.2.2.2) true,aa.2.2.1,wrap .i64<|j.2.2.2.2.2+1))<|λr=>r.elim))else(some<|.br (j.1,j.2.1,j.2.2.1,j.2.2.2.1,j.2.2.2.2.1,j.2.2.2.2.2)):Option (Fl (List Bool×List Int×List Int×List Bool×List Int×Int) Empty))) N (o.1,o.2.1,o.2.2.1,o.2.2.2.1,o.2.2.2.2.1,0)).bind λav=>av.cs (λ(j:List Bool×List Int×List Int×List Bool×List Int×Int)=>some<|.nx (j.1,j.2.1,j.2.2.1,j.2.2.2.1,j.2.2.2.2.1,wrap .i64<|o.2.2.2.2.2+1))<|λr=>r.elim)else(some<|.br (o.1,o.2.1,o.2.2.1,o.2.2.2.1,o.2.2.2.2.1,o.2.2.2.2.2)):Option (Fl (List Bool×List Int×List Int×List Bool×List Int×Int) Empty))) N (p2.set (Int.toNat p1) true,([p1]:List Int),([]:List Int),ae,([p1]:List Int),0)).bind λaw=>aw.cs (λ(o:List Bool×List Int×List Int×List Bool×List Int×Int)=>some ((o.2.1,o.2.2.1,([]:List dQ)),o.1))<|λr=>r.elim
def fw(N:Nat)(p0:List aH)(p1:jX):Option Bool:=
 (iB N p0 p1.Y).bind λj=>(gX N j p1.X).bind λo=>some o
def fY(N:Nat)(p0_2:List bR)(p0_4:List Int)(p0_5:List (List aH))(p1:cS):Option (dK×Bool):=
 (jg (λ(o:Int)=>(bif decide (o<(p0_5.length:Int))then(((idx p0_4 o).bind λaa=>bif aa==p1.dN then((idx p0_5 o).bind λab=>(fw N ab p1.At).bind λad=>some ad)else some false).bind λae=>bif ae then some (.rt ((⟨false,o⟩:dK),true))else some (.nx<|wrap .i64<|o+1))else(some<|.br o):Option (Fl Int<|dK×Bool))) N 0).bind λaf=>af.cs (λ(o:Int)=>(jg (λ(j:Int)=>(bif decide (j<(p0_2.length:Int))then(((idx p0_2 j).bind λag=>bif ag.eN then((idx p0_2 j).bind λah=>(fL N ah p1.dN).bind λai=>bif ai then((idx p0_2 j).bind λaj=>(cN N aj).bind λak=>(fw N ([ak]:List aH) p1.At).bind λal=>some al)else some false)else some false).bind λan=>bif an then some (.rt ((⟨true,j⟩:dK),true))else some (.nx<|wrap .i64<|j+1))else(some<|.br j):Option (Fl Int<|dK×Bool))) N 0).bind λao=>ao.cs (λ(j:Int)=>some ((⟨false,0⟩:dK),false))<|λr=>some r)<|λr=>some r
def eG(N:Nat)(p0_6:List cF)(p1:dK):Option Int:=
 (jg (λ(j:Int)=>(bif decide (j<(p0_6.length:Int))then((bif p1.bR then((idx p0_6 j).bind λo=>(cX N o.aN p1.Number).bind λaa=>bif aa then some true else(bif(!p1.bR)then((idx p0_6 j).bind λab=>(cX N ab.kX p1.Number).bind λad=>some ad)else some false))else(bif(!p1.bR)then((idx p0_6 j).bind λae=>(cX N ae.kX p1.Number).bind λaf=>some af)else some false)).bind λag=>bif ag then some (.rt j)else some (.nx<|wrap .i64<|j+1))else(some<|.br j):Option (Fl Int Int))) N 0).bind λah=>ah.cs (λ(j:Int)=>some<|-1)<|λr=>some r
def eX(N:Nat)(p0_2:List bR)(p0_4:List Int)(p0_5:List (List aH))(p0_6:List cF)(p1:cS):Option Int:=
 (fY N p0_2 p0_4 p0_5 p1).bind λj=>bif(!j.2)then some (-1)else((eG N p0_6 j.1).bind λo=>some o)
def fJ(N:Nat)(p0_2:List bR)(p0_3:List cS)(p0_4:List Int)(p0_5:List (List aH))(p0_7:List (List Int)):Option (List cF):=
 (mk 1 (false:Bool) (p0_5.length:Int)).bind λag=>(jg (λ(j:List cF×List Bool×Int)=>(bif decide (j.2.2<(p0_5.length:Int))then((idx j.2.1 j.2.2).bind λah=>(bif(!ah)then((gY N p0_7 j.2.2 j.2.1).bind λab=>(app 72 j.1 [(⟨ab.1.1,ab.1.2.1,ab.1.2.2⟩:cF)]).bind λai=>some (ai,ab.2))else some (j.1,j.2.1)).bind λaf=>some<|.nx (af.1,af.2,wrap .i64<|j.2.2+1))else(some<|.br (j.1,j.2.1,j.2.2)):Option (Fl (List cF×List Bool×Int) Empty))) N (([]:List cF),ag,0)).bind λaj=>aj.cs (λ(j:List cF×List Bool×Int)=>(jg (λ(aa:List cF×Int)=>(bif decide (aa.2<(p0_7.length:Int))then(((idx p0_2 aa.2).bind λak=>bif ak.eN then((idx p0_7 aa.2).bind λal=>some<|(al.length:Int)==0)else some false).bind λan=>(bif an then((app 72 aa.1 [(⟨([]:List Int),([aa.2]:List Int),([]:List dQ)⟩:cF)]).bind λao=>some ao)else some aa.1).bind λaq=>some<|.nx (aq,wrap .i64<|aa.2+1))else(some<|.br (aa.1,aa.2)):Option (Fl (List cF×Int) Empty))) N (j.1,0)).bind λar=>ar.cs (λ(aa:List cF×Int)=>(jg (λ(o:List cF×Int)=>(bif decide (o.2<(p0_3.length:Int))then((idx p0_3 o.2).bind λae=>(eX N p0_2 p0_4 p0_5 o.1 ae).bind λad=>(bif decide (ad>=0)then((idx o.1 ad).bind λau=>(app 32 au.gL ([(⟨ae.Part,ae.dQ⟩:dQ)]:List dQ)).bind λav=>(idx o.1 ad).bind λaw=>some<|o.1.set (Int.toNat ad) {aw with gL:=av})else some o.1).bind λax=>some<|.nx (ax,wrap .i64<|o.2+1))else(some<|.br (o.1,o.2)):Option (Fl (List cF×Int) Empty))) N (aa.1,0)).bind λay=>ay.cs (λ(o:List cF×Int)=>some o.1)<|λr=>r.elim)<|λr=>r.elim)<|λr=>r.elim
def iF(N:Nat)(p0:gQ):Option (List (List aH)×List aH×List bR×List cS×List Int×List (List aH)×List cF×List (List Int)):=
 (jg (λ(j:List Int×List (List aH)×Int)=>(bif decide (j.2.2<(p0.aK.length:Int))then((gM N p0 j.2.2).bind λae=>(gh N ae).bind λad=>(jg (λ(o:List Int×List (List aH)×Int)=>(bif decide (o.2.2<(ad.length:Int))then((app 8 o.1 ([j.2.2]:List Int)).bind λaf=>(idx ad o.2.2).bind λag=>(app 24 o.2.1 ([ag]:List (List aH))).bind λy7=>some<|.nx (af,y7,wrap .i64<|o.2.2+1))else(some<|.br (o.1,o.2.1,o.2.2)):Option (Fl (List Int×List (List aH)×Int) Empty))) N (j.1,j.2.1,0)).bind λah=>ah.cs (λ(o:List Int×List (List aH)×Int)=>some<|.nx (o.1,o.2.1,wrap .i64<|j.2.2+1))<|λr=>r.elim)else(some<|.br (j.1,j.2.1,j.2.2)):Option (Fl (List Int×List (List aH)×Int) Empty))) N (([]:List Int),([]:List (List aH)),0)).bind λai=>ai.cs (λ(j:List Int×List (List aH)×Int)=>(jg (λ(aa:List (List Int)×Int)=>(bif decide (aa.2<(p0.aN.length:Int))then((jg (λ(ab:List Int×Int)=>((bif decide (ab.2<(j.2.1.length:Int))then((idx p0.aN aa.2).bind λaj=>some aj.eN)else some false).bind λak=>bif ak then(((idx p0.aN aa.2).bind λal=>(idx j.1 ab.2).bind λan=>(fL N al an).bind λao=>bif ao then((idx j.2.1 ab.2).bind λaq=>(idx p0.aN aa.2).bind λar=>(cN N ar).bind λau=>(jR N aq au).bind λav=>some av)else some false).bind λaw=>(bif aw then((app 8 ab.1 ([ab.2]:List Int)).bind λax=>some ax)else some ab.1).bind λay=>some<|.nx (ay,wrap .i64<|ab.2+1))else(some<|.br (ab.1,ab.2)):Option (Fl (List Int×Int) Empty))) N (([]:List Int),0)).bind λaz=>az.cs (λ(ab:List Int×Int)=>(app 24 aa.1 ([ab.1]:List (List Int))).bind λa0=>some<|.nx (a0,wrap .i64<|aa.2+1))<|λr=>r.elim)else(some<|.br (aa.1,aa.2)):Option (Fl (List (List Int)×Int) Empty))) N (([]:List (List Int)),0)).bind λa1=>a1.cs (λ(aa:List (List Int)×Int)=>(fJ N p0.aN p0.bJ j.1 j.2.1 aa.1).bind λa2=>some (p0.aK,p0.cJ,p0.aN,p0.bJ,j.1,j.2.1,a2,aa.1))<|λr=>r.elim)<|λr=>r.elim
def gE(N:Nat)(p0 p1 p2:Int):Option Bool:=
 some (decide (p0>=p1)&&decide (p0<=p2))
def iK(N:Nat)(p0_2:List bR)(p0_5:List (List aH))(p1:dX):Option Int:=
 (bif p1.Open&&((p1.A != 0)||(p1.B != 0))then some true else(bif(!p1.Open)then some (!(decide<|p1.dK=(⟨false,0⟩:dK)))else some false)).bind λj=>bif j then some 3 else(bif(!p1.Open)then(((gE N p1.A 0<|wrap .i64<|(p0_5.length:Int) - 1).bind λo=>bif(!o)then some true else((gE N p1.B 0<|wrap .i64<|(p0_5.length:Int) - 1).bind λaa=>some<|!aa)).bind λab=>bif ab then some 9 else(bif decide (p1.B<=p1.A)then some 8 else some 0))else((bif(!p1.dK.bR)then((gE N p1.dK.Number 0<|wrap .i64<|(p0_5.length:Int) - 1).bind λad=>some<|!ad)else some false).bind λae=>bif ae then some 9 else((bif p1.dK.bR then((gE N p1.dK.Number 0<|wrap .i64<|(p0_2.length:Int) - 1).bind λaf=>bif(!af)then some true else((idx p0_2 p1.dK.Number).bind λag=>some<|!ag.eN))else some false).bind λah=>bif ah then some 9 else some 0)))
def ir(N:Nat)(p0_2:List bR)(p0_5:List (List aH))(p1:List dX):Option Int:=
 bif decide ((p1.length:Int)>20)then some 2 else((jg (λ(j:Int)=>(bif decide (j<(p1.length:Int))then((idx p1 j).bind λab=>(iK N p0_2 p0_5 ab).bind λaa=>bif aa != 0 then some (.rt aa)else((jg (λ(o:Int)=>(bif decide (o<j)then((idx p1 o).bind λad=>(idx p1 j).bind λae=>bif decide (ad=ae)then some (.rt 7)else some (.nx<|wrap .i64<|o+1))else(some<|.br o):Option (Fl Int Int))) N 0).bind λaf=>af.cs (λ(o:Int)=>some<|.nx<|wrap .i64<|j+1)<|λr=>some<|.rt r))else(some<|.br j):Option (Fl Int Int))) N 0).bind λag=>ag.cs (λ(j:Int)=>some 0)<|λr=>some r)
def fo(N:Nat)(p0:gQ)(p1:List dX):Option Int:=
 (dA N p0).bind λj=>bif j != 0 then some j else((iF N p0).bind λo=>(ir N o.2.2.1 o.2.2.2.2.2.1 p1).bind λaa=>some aa)
def fM(N:Nat)(p0_5:List (List aH))(p1:dK):Option Int:=
 bif p1.bR then some (wrap .i64<|(p0_5.length:Int)+p1.Number)else some p1.Number
def gI(N:Nat)(p0_7:List (List Int))(p1:Int):Option (List Int):=
 (idx p0_7 p1).bind λj=>some j
def gx(N:Nat)(p0:List Int)(p1 p2:Int):Option (List Int):=
 (idx p0 p1).bind λo=>(idx p0 p2).bind λaa=>(jg (λ(j:List Int×Int)=>(bif decide (j.2<(j.1.length:Int))then((idx j.1 j.2).bind λab=>(bif ab==aa then((idx j.1 j.2).bind λaf=>some<|j.1.set (Int.toNat j.2) o)else some j.1).bind λad=>some<|.nx (ad,wrap .i64<|j.2+1))else(some<|.br (j.1,j.2)):Option (Fl (List Int×Int) Empty))) N (p0,0)).bind λae=>ae.cs (λ(j:List Int×Int)=>some j.1)<|λr=>r.elim
def gZ(N:Nat)(p0_2:List bR)(p0_3:List cS)(p0_4:List Int)(p0_5:List (List aH))(p0_7:List (List Int))(p1:List dX):Option (List Int):=
 (mk 1 (false:Bool)<|wrap .i64<|(p0_5.length:Int)+(p0_2.length:Int)).bind λai=>(jg (λ(j:List Bool×Int)=>(bif decide (j.2<(p1.length:Int))then((idx p1 j.2).bind λaj=>(bif aj.Open then((idx p1 j.2).bind λak=>(fM N p0_5 ak.dK).bind λah=>(idx j.1 ah).bind λbp=>some<|j.1.set (Int.toNat ah) true)else some j.1).bind λal=>some<|.nx (al,wrap .i64<|j.2+1))else(some<|.br (j.1,j.2)):Option (Fl (List Bool×Int) Empty))) N (ai,0)).bind λan=>an.cs (λ(j:List Bool×Int)=>(mk 8 (0:Int) (j.1.length:Int)).bind λao=>(jg (λ(aa:List Int×Int)=>(bif decide (aa.2<(aa.1.length:Int))then((idx aa.1 aa.2).bind λbq=>some<|.nx (aa.1.set (Int.toNat aa.2) aa.2,wrap .i64<|aa.2+1))else(some<|.br (aa.1,aa.2)):Option (Fl (List Int×Int) Empty))) N (ao,0)).bind λaq=>aq.cs (λ(aa:List Int×Int)=>(jg (λ(ab:List Int×Int)=>(bif decide (ab.2<(p0_2.length:Int))then((gI N p0_7 ab.2).bind λaf=>(jg (λ(ad:List Int×Int)=>(bif decide (ad.2<(af.length:Int))then(((idx j.1<|wrap .i64<|(p0_5.length:Int)+ab.2).bind λar=>bif(!ar)then((idx af ad.2).bind λau=>(idx j.1 au).bind λav=>some<|!av)else some false).bind λaw=>(bif aw then((idx af ad.2).bind λax=>(gx N ad.1 (wrap .i64<|(p0_5.length:Int)+ab.2) ax).bind λay=>some ay)else some ad.1).bind λaz=>some<|.nx (az,wrap .i64<|ad.2+1))else(some<|.br (ad.1,ad.2)):Option (Fl (List Int×Int) Empty))) N (ab.1,0)).bind λa0=>a0.cs (λ(ad:List Int×Int)=>some<|.nx (ad.1,wrap .i64<|ab.2+1))<|λr=>r.elim)else(some<|.br (ab.1,ab.2)):Option (Fl (List Int×Int) Empty))) N (aa.1,0)).bind λa1=>a1.cs (λ(ab:List Int×Int)=>(jg (λ(o:List Int×Int)=>(bif decide (o.2<(p1.length:Int))then(((idx p1 o.2).bind λa2=>bif(!a2.Open)then((idx p1 o.2).bind λa3=>(idx j.1 a3.A).bind λa4=>bif(!a4)then((idx p1 o.2).bind λa5=>(idx j.1 a5.B).bind λa6=>some<|!a6)else some false)else some false).bind λa7=>(bif a7 then((idx p1 o.2).bind λa8=>(idx p1 o.2).bind λa9=>(gx N o.1 a8.A a9.B).bind λba=>some ba)else some o.1).bind λbb=>some<|.nx (bb,wrap .i64<|o.2+1))else(some<|.br (o.1,o.2)):Option (Fl (List Int×Int) Empty))) N (ab.1,0)).bind λbc=>bc.cs (λ(o:List Int×Int)=>(jg (λ(ae:List Int×Int)=>(bif decide (ae.2<(p0_3.length:Int))then((idx p0_3 ae.2).bind λbd=>(fY N p0_2 p0_4 p0_5 bd).bind λag=>(bif(!ag.2)then some true else((fM N p0_5 ag.1).bind λbf=>(idx j.1 bf).bind λbg=>some bg)).bind λbh=>(bif bh then((app 8 ae.1 ([(-1)]:List Int)).bind λbj=>some bj)else((fM N p0_5 ag.1).bind λbk=>(idx o.1 bk).bind λbl=>(app 8 ae.1 ([bl]:List Int)).bind λbm=>some bm)).bind λbn=>some<|.nx (bn,wrap .i64<|ae.2+1))else(some<|.br (ae.1,ae.2)):Option (Fl (List Int×Int) Empty))) N (([]:List Int),0)).bind λbo=>bo.cs (λ(ae:List Int×Int)=>some ae.1)<|λr=>r.elim)<|λr=>r.elim)<|λr=>r.elim)<|λr=>r.elim)<|λr=>r.elim
def iL(N:Nat)(p0:List Int)(p1 p2:Int):Option Bool:=
 ((idx p0 p1).bind λj=>bif decide (j>=0)then((idx p0 p1).bind λo=>(idx p0 p2).bind λaa=>some<|o==aa)else some false).bind λab=>some ab
def kd(N:Nat)(p0_0:List (List aH))(p0_1:List aH)(p0_2:List bR)(p0_3:List cS)(p0_4:List Int)(p0_5:List (List aH))(p0_7:List (List Int))(p1:List Test)(p2:List dX):Option (List Bool):=
 (gZ N p0_2 p0_3 p0_4 p0_5 p0_7 p2).bind λo=>(jg (λ(j:List Int×List Bool×Int)=>(bif decide (j.2.2<(p1.length:Int))then((idx p1 j.2.2).bind λaa=>(idx p1 j.2.2).bind λab=>(eV N (⟨p0_0,p0_1,p0_2,p0_3⟩:gQ) aa.A).bind λad=>(eV N (⟨p0_0,p0_1,p0_2,p0_3⟩:gQ) ab.B).bind λae=>(iL N j.1 ad ae).bind λaf=>(app 1 j.2.1 ([af]:List Bool)).bind λag=>some<|.nx (j.1,ag,wrap .i64<|j.2.2+1))else(some<|.br (j.1,j.2.1,j.2.2)):Option (Fl (List Int×List Bool×Int) Empty))) N (o,([]:List Bool),0)).bind λah=>ah.cs (λ(j:List Int×List Bool×Int)=>some j.2.1)<|λr=>r.elim
def dH(N:Nat)(p0:gQ)(p1:List Test)(p2:List dX):Option (List Bool×Int):=
 (dC N p0 p1).bind λo=>bif o != 0 then some (([]:List Bool),o)else((fo N p0 p2).bind λaa=>bif aa != 0 then some (([]:List Bool),aa)else((iF N p0).bind λj=>(kd N j.1 j.2.1 j.2.2.1 j.2.2.2.1 j.2.2.2.2.1 j.2.2.2.2.2.1 j.2.2.2.2.2.2.2 p1 p2).bind λab=>some (ab,0)))
def lP(N:Nat)(p0:gQ)(p1:List Test)(p2:List dX):Option (Bool×Int):=
 (gw N p0 p1 p2).bind λj=>bif j.2 != 0 then some (false,j.2)else((tL p1.length (λ(o:Nat)(aa:Unit)=>((idx p1 (o:Int)).bind λab=>(idx j.1 (o:Int)).bind λad=>bif ad != ab.Joined then some (.rt (false,0))else(some<|.nx ()):Option (Fl Unit<|Bool×Int))) ()).bind λae=>ae.cs (λ(aa:Unit)=>some (true,0))<|λr=>some r)
def fN(N:Nat)(p0:gQ)(p1:List Test)(p2:List dX):Option (Bool×Int):=
 (dH N p0 p1 p2).bind λo=>bif o.2 != 0 then some (false,o.2)else((jg (λ(j:Int)=>(bif decide (j<(p1.length:Int))then((idx o.1 j).bind λaa=>(idx p1 j).bind λab=>bif aa != ab.Joined then some (.rt (false,0))else some (.nx<|wrap .i64<|j+1))else(some<|.br j):Option (Fl Int<|Bool×Int))) N 0).bind λad=>ad.cs (λ(j:Int)=>some (true,0))<|λr=>some r)
def lQ(N:Nat)(p0:List Bool)(p1:List Bool):Option Bool:=
 bif(p0.length:Int) != (p1.length:Int)then some false else((tL p0.length (λ(j:Nat)(o:Unit)=>((idx p0 (j:Int)).bind λaa=>(idx p1 (j:Int)).bind λab=>bif aa != ab then some (.rt false)else(some<|.nx ()):Option (Fl Unit Bool))) ()).bind λad=>ad.cs (λ(o:Unit)=>some true)<|λr=>some r)
def kA(N:Nat)(p0:gQ)(p1:List dX)(p2 p3:dQ):Option (Bool×Int):=
 (iA N p0).bind λo=>I9 o.1 (bif o.2 != 0 then some (false,o.2)else none) (λ(j:(List (List aH)×List aH×List bR×List cS×List (List aA)×List aF×List (List Int)×List cF×List Int×List Int×List Int×List dK))=>bif o.2 != 0 then some (false,o.2)else((jO N j.1 j.2.1 j.2.2.1 j.2.2.2.1 j.2.2.2.2.1 j.2.2.2.2.2.1 j.2.2.2.2.2.2.1 j.2.2.2.2.2.2.2.1 j.2.2.2.2.2.2.2.2.1 j.2.2.2.2.2.2.2.2.2.1 j.2.2.2.2.2.2.2.2.2.2.1 j.2.2.2.2.2.2.2.2.2.2.2 p1).bind λad=>bif ad != 0 then some (false,ad)else((fD N p0 p2).bind λaa=>(fD N p0 p3).bind λae=>bif decide (aa<0)||decide (ae<0)then some (false,9)else((eU N j.2.2.1 j.2.2.2.1 j.2.2.2.2.2.1 j.2.2.2.2.2.2.1 j.2.2.2.2.2.2.2.2.2.2.1 j.2.2.2.2.2.2.2.2.2.2.2 p1).bind λab=>((idx ab aa).bind λaf=>bif decide (af>=0)then((idx ab aa).bind λag=>(idx ab ae).bind λah=>some<|ag==ah)else some false).bind λai=>some (ai,0)))))
def ke(N:Nat):Option Bool:=
 (kA N (⟨([([(⟨0,0,1,1⟩:aH)]:List aH)]:List (List aH)),([]:List aH),([]:List bR),([(⟨⟨[97]⟩,⟨[49]⟩,0,⟨0,0⟩⟩:cS)]:List cS)⟩:gQ) ([]:List dX) (⟨⟨[97]⟩,⟨[49]⟩⟩:dQ) (⟨⟨[97]⟩,⟨[49]⟩⟩:dQ)).bind λj=>some<|(j.2==0)&&j.1
def gj(N:Nat)(p0:gQ)(p1:List Test)(p2:List dX):Option Bool:=
 (gw N p0 p1 p2).bind λj=>(dH N p0 p1 p2).bind λo=>(lP N p0 p1 p2).bind λaa=>(fN N p0 p1 p2).bind λab=>((lQ N j.1 o.1).bind λad=>bif ad&&(j.2==o.2)then(bif(aa.1==ab.1)&&(aa.2==ab.2)then((ke N).bind λae=>some ae)else some false)else some false).bind λaf=>some af
end
def nK{R:Type}(m:Nat)(e:Nat->Option R):Option R:=(List.range m).findSome? e
theorem jA{R:Type}{m:Nat}{e:Nat->Option R}:nK m e=none↔∀k,k<m->e k=none:=by
 simp[nK]
theorem iG{R:Type}{m:Nat}{e:Nat->Option R}{r:R}:nK m e=some r↔∃k,k<m/\e k=some r/\∀j,j<k->e j=none:=by
 constructor
 ·intro h;obtain⟨l1,a,l2,hl,ha,hn⟩:=List.findSome?_eq_some_iff.1 h;have hlen:l1.length<m:=by have:=congrArg List.length hl;simp at this;omega
  have hget:∀i,i<l1.length->l1[i]? =some i:=λi hi=>by
   have:=congrArg (·[i]?) hl;simp only[jB hi,List.getElem?_range (show i<m by omega)]at this;exact this.symm
  have hat:a=l1.length:=by
   have:=congrArg (·[l1.length]?) hl;simp[List.getElem?_range hlen]at this;exact this.symm
  refine⟨a,by omega,ha,λj hj=>hn j ?_⟩;exact fQ<|hget j (by omega)
 ·rintro⟨k,hk,he,hn⟩;refine List.findSome?_eq_some_iff.2 ⟨List.range k,k,(List.range<|m - k - 1).map (· +(k+1)),?_,he,λx hx=>hn x<|re.1 hx⟩;refine List.ext_getElem? λi=>?_
  by_cases h1:i<k
  ·rw[jB (by simpa using h1),List.getElem?_range (by omega),List.getElem?_range h1]
  ·rw[jC (by simpa using h1),List.length_range]
   by_cases h2:i=k
   ·subst h2;simp[List.getElem?_range hk]
   ·obtain⟨d,rfl⟩:∃d,i=k+1+d:=⟨i -(k+1),by omega⟩;rw[show k+1+d - k=d+1 by omega,List.getElem?_cons_succ,jD]
    by_cases h3:k+1+d<m
    ·rw[List.getElem?_range h3,List.getElem?_range (by omega)];simp;omega
    ·rw[List.getElem?_eq_none (by simp;omega),List.getElem?_eq_none (by simp;omega)];rfl
theorem Ln{R R':Type}{m:Nat}{e:Nat->Option R}(f:R->R'):(nK m e).map f=nK m (λk=>(e k).map f):=by
 cases hx:nK m e with
 |none=>exact(jA.2 λk hk=>by rw[jA.1 hx k hk];rfl).symm
 |some r=>
  obtain⟨k,hk,he,hn⟩:=iG.1 hx;exact(iG.2 ⟨k,hk,by rw[he];rfl,λj hj=>by rw[hn j hj];rfl⟩).symm
section
variable {S R:Type}
def Kb(o:Option R)(s:S):Fl S R:=match o with|some r=> .rt r|none=> .nx s
def FF(o:Option R)(s:S):Fo S R:=match o with|some r=> .rt r|none=> .go s
theorem G7{body:Nat->S->Option (Fl S R)}(F:Nat->S)(e:Nat->Option R)(m:Nat):∀(n k:Nat),k+n=m->
  (∀j,k<=j->j<m->(∀i,k<=i->i<j->e i=none)->body j (F j)=some (Kb (e j)<|F<|j+1))->
  ∃o,Fi body n k (F k)=some o/\((∀j,k<=j->j<m->e j=none)/\o = .go (F m)\/∃j r,k<=j/\j<m/\e j=some r/\(∀i,k<=i->i<j->e i=none)/\o = .rt r)
 | 0,k,hk,_=>⟨_,rfl, .inl ⟨λj h1 h2=>by omega,by rw[show k=m by omega]⟩⟩
 |n+1,k,hk,h=>by
  have hb:=h k (cH _) (by omega) (λi h1 h2=>by omega);unfold Fi;rw[hb]
  cases hx:e k with
  |some r=>exact⟨_,rfl, .inr ⟨k,r,cH _,by omega,hx,λi h1 h2=>by omega,rfl⟩⟩
  |none=>
   obtain⟨o,ho,hc⟩:=G7 F e m n (k+1) (by omega) (λj h1 h2 h3=>h j (by omega) h2 λi h4 h5=>by
    by_cases h6:i=k
    ·subst h6;exact hx
    ·exact h3 i (by omega) h5)
   refine⟨o,ho,?_⟩
   rcases hc with⟨h1,h2⟩|⟨j,r,h1,h2,h3,h4,h5⟩
   ·refine .inl ⟨λj h3 h4=>?_,h2⟩
    by_cases h6:j=k
    ·subst h6;exact hx
    ·exact h1 j (by omega) h4
   ·refine .inr ⟨j,r,by omega,h2,h3,λi h6 h7=>?_,h5⟩
    by_cases h8:i=k
    ·subst h8;exact hx
    ·exact h4 i (by omega) h7
theorem MF{body:Nat->S->Option (Fl S R)}{m:Nat}{s:S}(F:Nat->S)(e:Nat->Option R)(hm:m<=4611686018427387904)(hs:F 0=s)
  (h:∀k,k<m->(∀i,i<k->e i=none)->body k (F k)=some (Kb (e k)<|F<|k+1)):tL m body s=some (FF (nK m e)<|F m):=by
 subst hs;unfold tL;rw[aG hm];obtain⟨o,ho,hc⟩:=G7 F e m m 0 (by omega)<|λj _ h2 h3=>h j h2 λi hi=>h3 i (cT _) hi
 rw[ho]
 rcases hc with⟨h1,h2⟩|⟨j,r,_,h2,h3,h4,h5⟩
 ·rw[jA.2 λk hk=>h1 k (cT _) hk,h2];rfl
 ·rw[iG.2 ⟨j,h2,h3,λi hi=>h4 i (cT _) hi⟩,h5];rfl
theorem o9{body:Nat->Unit->Option (Fl Unit R)}{m:Nat}(e:Nat->Option R)(hm:m<=4611686018427387904)
  (h:∀k,k<m->(∀i,i<k->e i=none)->body k ()=some (Kb (e k) ())):tL m body ()=some (FF (nK m e) ()):=
 MF (λ_=>()) e hm rfl h
theorem G8{body:Nat->S->Option S}(F:Nat->S):∀(n k:Nat),(∀j,k<=j->j<k+n->body j (F j)=some (F<|j+1))->H7 body n k (F k)=some (F<|k+n)
 | 0,_,_=>rfl
 |n+1,k,h=>by
  unfold H7;rw[h k (cH _) (by omega)];have:=G8 F n (k+1)<|λj h1 h2=>h j (by omega) (by omega)
  rw[show k+(n+1)=k+1+n by omega];exact this
theorem MG{body:Nat->S->Option S}{m:Nat}{s:S}(F:Nat->S)(hm:m<=4611686018427387904)(hs:F 0=s)
  (h:∀k,k<m->body k (F k)=some (F<|k+1)):mx m body s=some (F m):=by
 subst hs;unfold mx;rw[aG hm];have:=G8 F m 0<|λj _ h2=>h j (by omega)
 rwa[jE]at this
theorem Ag{body:S->Option (Fl S R)}(Inv:S->Prop)(μ:S->Nat)(Go:S->Prop)(Rt:R->Prop)
  (h:∀s,Inv s->∃fl,body s=some fl/\match fl with| .nx s'=>Inv s'/\μ s'<μ s| .br s'=>Go s'| .rt r=>Rt r):
  ∀(N:Nat)(s:S),Inv s->μ s<N->∃o,jg body N s=some o/\match o with| .go s'=>Go s'| .rt r=>Rt r
 | 0,s,_,hn=>by omega
 |N+1,s,hi,hn=>by
  obtain⟨fl,hb,hf⟩:=h s hi;unfold jg;rw[hb]
  cases fl with
  |nx s'=>exact Ag Inv μ Go Rt h N s' hf.1 (by have:=hf.2;omega)
  |br s'=>exact⟨_,rfl,hf⟩
  |rt r=>exact⟨_,rfl,hf⟩
theorem G9{body:Nat->S->Option (Fl S R)}(Inv:Nat->S->Prop)(Go:S->Prop)(Rt:R->Prop)(m:Nat)
  (h:∀k s,k<m->Inv k s->∃fl,body k s=some fl/\match fl with| .nx s'=>Inv (k+1) s'| .br s'=>Go s'| .rt r=>Rt r) (hg:∀s,Inv m s->Go s):
  ∀(n k:Nat)(s:S),k+n=m->Inv k s->∃o,Fi body n k s=some o/\match o with| .go s'=>Go s'| .rt r=>Rt r
 | 0,k,s,hk,hi=>⟨_,rfl,hg s (by rw[<-hk];exact hi)⟩
 |n+1,k,s,hk,hi=>by
  obtain⟨fl,hb,hf⟩:=h k s (by omega) hi;unfold Fi;rw[hb]
  cases fl with
  |nx s'=>exact G9 Inv Go Rt m h hg n (k+1) s' (by omega) hf
  |br s'=>exact⟨_,rfl,hf⟩
  |rt r=>exact⟨_,rfl,hf⟩
theorem MH{body:Nat->S->Option (Fl S R)}{m:Nat}{s:S}(Inv:Nat->S->Prop)(Go:S->Prop)(Rt:R->Prop)(hm:m<=4611686018427387904)(h0:Inv 0 s)
  (h:∀k s,k<m->Inv k s->∃fl,body k s=some fl/\match fl with| .nx s'=>Inv (k+1) s'| .br s'=>Go s'| .rt r=>Rt r) (hg:∀s,Inv m s->Go s):
  ∃o,tL m body s=some o/\match o with| .go s'=>Go s'| .rt r=>Rt r:=by
 unfold tL;rw[aG hm];exact G9 Inv Go Rt m h hg m 0 s (by omega) h0
theorem Ha{body:Nat->S->Option S}(Inv:Nat->S->Prop)(m:Nat)(h:∀k s,k<m->Inv k s->∃s',body k s=some s'/\Inv (k+1) s'):
  ∀(n k:Nat)(s:S),k+n=m->Inv k s->∃s',H7 body n k s=some s'/\Inv m s'
 | 0,k,s,hk,hi=>⟨_,rfl,by rw[<-hk];exact hi⟩
 |n+1,k,s,hk,hi=>by
  obtain⟨s',hb,hf⟩:=h k s (by omega) hi;unfold H7;rw[hb];exact Ha Inv m h n (k+1) s' (by omega) hf
theorem Cz{body:Nat->S->Option S}{m:Nat}{s:S}(Inv:Nat->S->Prop)(hm:m<=4611686018427387904)(h0:Inv 0 s)
  (h:∀k s,k<m->Inv k s->∃s',body k s=some s'/\Inv (k+1) s'):∃s',mx m body s=some s'/\Inv m s':=by
 unfold mx;rw[aG hm];exact Ha Inv m h m 0 s (by omega) h0
end
section
variable {α β:Type}
theorem aB(x:α)(f:α->Option β):(some x).bind f=f x:=rfl
theorem l6(l:List α)(k:Nat)(h:k<l.length):idx l ((k:Nat):Int)=some l[k]:=by
 unfold idx;rw[aG (by omega),cI,aP h]
theorem cC{l:List α}{k:Nat}{x:α}(h:l[k]? =some x):idx l ((k:Nat):Int)=some x:=by
 unfold idx;rw[aG (by omega),cI,h]
theorem Hb(s:eJ)(k:Nat)(h:k<s.dL.length):Ia s ((k:Nat):Int)=some s.dL[k]:=by
 unfold Ia;rw[aG (by omega),cI,aP h]
theorem ja{k:Nat}(h:0<k)(hk:k<=4611686018427387904):wrap .i64 (((k:Nat):Int) - 1)=((k - 1:Nat):Int):=by
 rw[fP (by omega) (by omega)];omega
theorem tj(l:List α)(k:Nat)(h:k<=l.length):uj l 0 ((k:Nat):Int)=some (l.take k):=by
 unfold uj;rw[aG ⟨by omega,by omega,by omega⟩];simp only[Int.toNat_zero,List.drop_zero,Int.sub_zero,cI]
theorem rB(l:List α)(k:Nat)(h:k<=l.length):uj l ((k:Nat):Int) ((l.length:Nat):Int)=some (l.drop k):=by
 unfold uj;rw[aG ⟨by omega,by omega,by omega⟩];simp only[cI,Option.some.injEq];rw[mz];rw[l3];omega
theorem lf{b:Nat}{l ys:List α}(h:(l.length+ys.length)*b<=140737488355328):app b l ys=some (l++ys):=by unfold app;rw[aG h]
theorem pD{b:Nat}(z:α){n:Nat}(h:n*b<=140737488355328):mk b z ((n:Nat):Int)=some (List.replicate n z):=by
 unfold mk;have e:((n:Nat):Int)*((b:Nat):Int)=((n*b:Nat):Int):=(Int.natCast_mul n b).symm;rw[e];generalize n*b=q at h ⊢;rw[aG ⟨by omega,by omega⟩,cI]
end
theorem eJ.ext'{a b:eJ}(h:a.dL=b.dL):a=b:=by cases a;cases b;simp at h;rw[h]
theorem Ah{a b:eJ}:a.o6 b=true↔a=b:=by
 unfold eJ.o6;rw[beq_iff_eq];exact⟨eJ.ext',λh=>by rw[h]⟩
theorem Jq(a b:eJ):a.o6 b=decide (a=b):=by rw[gS,Ah];simp
theorem BS:∀(a:List UInt8),Op.bytesLess a a=false
 | []=>rfl
 |a::l=>by
  unfold Op.bytesLess;rw[BS l];simp
theorem C2:∀{a b c:List UInt8},Op.bytesLess a b=true->Op.bytesLess b c=true->Op.bytesLess a c=true
 | [],[],_,h,_=>by simp[Op.bytesLess]at h
 | [],_::_,[],_,h=>by simp[Op.bytesLess]at h
 | [],_::_,_::_,_,_=>rfl
 |_::_,[],_,h,_=>by simp[Op.bytesLess]at h
 |_::_,_::_,[],_,h=>by simp[Op.bytesLess]at h
 |a::l,b::m,c::n,h1,h2=>by
  unfold Op.bytesLess at h1 h2 ⊢;simp only[gR,cO,cP,beq_iff_eq]at h1 h2 ⊢
  rcases h1 with h1|⟨rfl,h1⟩
  ·rcases h2 with h2|⟨rfl,h2⟩
   ·exact .inl<|UInt8.lt_trans h1 h2
   ·exact .inl h1
  ·rcases h2 with h2|⟨rfl,h2⟩
   ·exact .inl h2
   ·exact .inr ⟨rfl,C2 h1 h2⟩
theorem C3:∀(a b:List UInt8),Op.bytesLess a b=true\/a=b\/Op.bytesLess b a=true
 | [],[]=> .inr (.inl rfl)
 | [],_::_=> .inl rfl
 |_::_,[]=> .inr (.inr rfl)
 |a::l,b::m=>by
  unfold Op.bytesLess;simp only[gR,cO,cP,beq_iff_eq]
  by_cases h1:a<b
  ·exact .inl<|.inl h1
  ·by_cases h2:b<a
   ·exact .inr<|.inr<|.inl h2
   ·have e:a=b:=by
     simp only[UInt8.lt_iff_toNat_lt]at h1 h2;exact UInt8.toNat_inj.1 (by omega)
    subst e
    rcases C3 l m with h|h|h
    ·exact .inl<|.inr ⟨rfl,h⟩
    ·exact .inr<|.inl (by rw[h])
    ·exact .inr<|.inr<|.inr ⟨rfl,h⟩
theorem zg:∀(a b:List UInt8),Lib.compareBytes a b<0↔Op.bytesLess a b=true
 | [],[]=>by simp[Lib.compareBytes,Op.bytesLess]
 | [],_::_=>by simp[Lib.compareBytes,Op.bytesLess]
 |_::_,[]=>by simp[Lib.compareBytes,Op.bytesLess]
 |a::l,b::m=>by
  unfold Lib.compareBytes Op.bytesLess;simp only[gR,cO,cP,beq_iff_eq];split
  ·simp_all
  ·rename_i h1;split
   ·rename_i h2;have h3:a≠b:=λe=>by subst e;exact h1 h2
    simp[h1,h3]
   ·rename_i h2;have e:a=b:=by
     simp only[UInt8.lt_iff_toNat_lt]at h1 h2;exact UInt8.toNat_inj.1 (by omega)
    subst e;rw[zg l m];simp[h1]
theorem C4:∀(a b:List UInt8),Lib.compareBytes a b=0↔a=b
 | [],[]=>by simp[Lib.compareBytes]
 | [],_::_=>by simp[Lib.compareBytes]
 |_::_,[]=>by simp[Lib.compareBytes]
 |a::l,b::m=>by
  unfold Lib.compareBytes;split
  ·rename_i h1;have h3:a≠b:=λe=>by subst e;exact absurd h1 (by simp)
   simp[h3]
  ·rename_i h1;split
   ·rename_i h2;have h3:a≠b:=λe=>by subst e;exact h1 h2
    simp[h3]
   ·rename_i h2;have e:a=b:=by
     simp only[UInt8.lt_iff_toNat_lt]at h1 h2;exact UInt8.toNat_inj.1 (by omega)
    subst e;rw[C4 l m];simp
def eJ.lt(a b:eJ):Prop:=a.nI b=true
theorem eJ.lt_irrefl(a:eJ):¬eJ.lt a a:=by unfold eJ.lt eJ.nI;rw[BS];decide
theorem eJ.lt_trans{a b c:eJ}(h1:eJ.lt a b)(h2:eJ.lt b c):eJ.lt a c:=C2 h1 h2
theorem eJ.Hc(a b:eJ):eJ.lt a b\/a=b\/eJ.lt b a:=by
 rcases C3 a.dL b.dL with h|h|h
 ·exact .inl h
 ·exact .inr<|.inl<|eJ.ext' h
 ·exact .inr<|.inr h
theorem eJ.NO{a b:eJ}(h:eJ.lt a b):a≠b:=λe=>by subst e;exact eJ.lt_irrefl a h
end Go.Gk
namespace Go.Gk
open Go IntKind
class Bk (α:Type)where
 bk:α->Nat
 pos:∀x,1<=bk x
def bk{α:Type}[Bk α](x:α):Nat:=Bk.bk x
theorem Lo{α:Type}[Bk α](x:α):1<=bk x:=Bk.pos x
instance:Bk eJ:=⟨λs=>s.dL.length+1,λ_=>by omega⟩
instance:Bk Int:=⟨λ_=>1,λ_=>by omega⟩
instance:Bk Bool:=⟨λ_=>1,λ_=>by omega⟩
instance {α:Type} [Bk α]:Bk (List α):=⟨λl=>(l.map bk).sum+1,λ_=>by omega⟩
theorem Lp{α:Type}[Bk α]:bk ([]:List α)=1:=rfl
theorem FG{α:Type}[Bk α](x:α)(l:List α):bk (x::l)=bk x+bk l:=by
 show(List.map bk<|x::l).sum+1=bk x+((List.map bk l).sum+1);simp;omega
theorem It{α:Type}[Bk α]:∀{l:List α}{x:α},x∈l->bk x+1<=bk l
 |y::l,x,h=>by
  rw[FG]
  rcases eF.1 h with h|h
  ·subst h;have:=Lo l;omega
  ·have:=It h;omega
theorem xh{α:Type}[Bk α]:∀(l:List α),l.length+1<=bk l
 | []=>by rw[Lp];simp
 |x::l=>by rw[FG,fq];have:=xh l;have:=Lo x;omega
theorem Oz(s:eJ):bk s=s.dL.length+1:=rfl
section
variable {α R:Type}
theorem Kc{l:List α}{e:Nat->Option R}(f:α->Option R)(h:∀k x,l[k]? =some x->e k=f x):nK l.length e=l.findSome? f:=by
 cases hx:nK l.length e with
 |none=>
  refine(List.findSome?_eq_none_iff.2 λx hm=>?_).symm;obtain⟨k,hk⟩:=dW hm;rw[<-h k x hk];exact jA.1 hx k (bN.1 hk).1
 |some r=>
  obtain⟨k,hk,he,hn⟩:=iG.1 hx;refine(List.findSome?_eq_some_iff.2 ⟨l.take k,l[k],l.drop<|k+1,?_,?_,λy hy=>?_⟩).symm
  ·rw[<-vG hk,List.take_append_drop]
  ·rw[<-h k l[k] (aP hk)];exact he
  ·obtain⟨j,hj⟩:=dW hy;have hjk:j<k:=by have:=(bN.1 hj).1;rw[dI]at this;omega
   rw[List.getElem?_take_of_lt hjk]at hj;rw[<-h j y hj];exact hn j hjk
theorem FH(l:List α)(p:α->Bool)(r:R):l.findSome? (λx=>if p x=true then some r else none)=if l.any p=true then some r else none:=by
 induction l with
 |nil=>simp
 |cons x l ih=>
  rw[List.findSome?_cons,List.any_cons]
  cases h:p x <;> simp[ih]
theorem Ai{l:List α}{body:Nat->Unit->Option (Fl Unit R)}(f:α->Option R)(hl:l.length<=4611686018427387904)
  (h:∀k x,l[k]? =some x->body k ()=some (Kb (f x) ())):tL l.length body ()=some (FF (l.findSome? f) ()):=by
 have h2:=o9 (body:=body) (m:=l.length) (λk=>(l[k]?).bind f) hl (λk hk _=>by
  rw[h k l[k] (aP hk),aP hk];rfl)
 rw[h2,Kc f (λk x hx=>by rw[hx];rfl)]
theorem MI{l:List α}{body:Nat->Unit->Option (Fl Unit R)}(p:α->Bool)(r:R)(hl:l.length<=4611686018427387904)
  (h:∀k x,l[k]? =some x->body k ()=some (if p x=true then .rt r else .nx ())):tL l.length body ()=some (if l.any p=true then .rt r else .go ()):=by
 rw[Ai (λx=>if p x=true then some r else none) hl (λk x hx=>by rw[h k x hx];cases p x <;> rfl),FH]
 cases l.any p <;> rfl
end
theorem MJ{β:Type}(b:Bool)(x y:β):(bif b then some x else some y)=some (bif b then x else y):=by cases b <;> rfl
section
variable {α β:Type}
def Jr(l:List α)(p:α->Bool):Int:=match l.findIdx? p with|some k=>((k:Nat):Int)|none=> -1
theorem Hd{l:List α}{p:α->Bool}(h:l.any p=false):Jr l p = -1:=by
 unfold Jr;rw[List.findIdx?_eq_none_iff.2];intro x hx;rw[<-l5];intro hp;rw[<-l5]at h;exact h<|kI.2 ⟨x,hx,hp⟩
theorem He{l:List α}{p:α->Bool}{k:Nat}{x:α}(hk:l[k]? =some x)(hp:p x=true)(hn:∀j y,j<k->l[j]? =some y->p y=false):Jr l p=((k:Nat):Int):=by
 unfold Jr;have hlt:=(bN.1 hk).1;have:l.findIdx? p=some k:=by
  rw[List.findIdx?_eq_some_iff_getElem];refine⟨hlt,?_,λj hj=>?_⟩
  ·have:=aP hlt;rw[hk]at this;injection this with this;rw[<-this];exact hp
  ·have:=hn j l[j] hj<|aP (by omega);simpa using this
 rw[this]
theorem x8(l:List α)(p:α->Bool):(Jr l p = -1/\∀x∈l,p x=false)\/∃k x,Jr l p=((k:Nat):Int)/\l[k]? =some x/\p x=true/\∀j y,j<k->l[j]? =some y->p y=false:=by
 unfold Jr
 cases h:l.findIdx? p with
 |none=>exact .inl ⟨rfl,λx hx=>by have:=List.findIdx?_eq_none_iff.1 h x hx;simpa using this⟩
 |some k=>
  obtain⟨hk,hp,hn⟩:=List.findIdx?_eq_some_iff_getElem.1 h;refine .inr ⟨k,l[k],rfl,aP hk,hp,λj y hj hy=>?_⟩;have:=hn j hj;rw[aP (by omega)]at hy;injection hy with hy
  subst hy;simpa using this
theorem Lq(l:List α)(p:α->Bool):decide (Jr l p>=0)=l.any p:=by
 rcases x8 l p with⟨h,hn⟩|⟨k,x,h,hx,hp,_⟩
 ·rw[h,List.any_eq_false.2 (λx hx=>by rw[hn x hx];decide)];decide
 ·rw[h,kI.2 ⟨x,fQ hx,hp⟩];simp
def vV(p0:List α)(p1:α->Option Bool):Option Int:=
 (tL p0.length (λ(k1:Nat)(_:Unit)=>((idx p0 ((k1:Nat):Int)).bind λx7=>(p1 x7).bind λx10=>bif x10 then some (.rt ((k1:Nat):Int))else(some<|.nx ()):Option (Fl Unit Int))) ()).bind λo11=>o11.cs (λ(_:Unit)=>some<|-1)<|λr=>some r
theorem uv{l:List α}{φ:α->Option Bool}(p:α->Bool)(hl:l.length<=4611686018427387904)(h:∀x∈l,φ x=some (p x)):vV l φ=some (Jr l p):=by
 unfold vV
 rw[o9 (λk=>(l[k]?).bind λx=>if p x=true then some ((k:Nat):Int)else none) hl (λk hk _=>by
  rw[l6 l k hk,aB,h _<|cL hk,aB,aP hk]
  cases hp:p l[k] <;> simp[Kb,hp]),aB]
 rcases x8 l p with⟨h1,h2⟩|⟨k,x,h1,h2,h3,h4⟩
 ·rw[jA.2 (λk hk=>by rw[aP hk];simp[h2 _<|cL hk])];simp[FF,Fo.cs,h1]
 ·rw[(iG (r:=((k:Nat):Int))).2 ⟨k,(bN.1 h2).1,by rw[h2];simp[h3],λj hj=>by
   cases hy:l[j]? with
   |none=>rfl
   |some y=>simp[h4 j y hj hy]⟩]
  simp[FF,Fo.cs,h1]
def uw(p0:List α)(p1:α->Option Bool):Option Bool:=
 (vV p0 p1).bind λx1=>some<|decide<|x1>=0
theorem uV{l:List α}{φ:α->Option Bool}(p:α->Bool)(hl:l.length<=4611686018427387904)(h:∀x∈l,φ x=some (p x)):uw l φ=some (l.any p):=by
 unfold uw;rw[uv p hl h,aB,Lq]
def Lr [DecidableEq α](p0:List α)(p1:α):Option Int:=
 (tL p0.length (λ(k2:Nat)(_:Unit)=>((idx p0 ((k2:Nat):Int)).bind λx12=>bif decide (p1=x12)then some (.rt ((k2:Nat):Int))else(some<|.nx ()):Option (Fl Unit Int))) ()).bind λo18=>o18.cs (λ(_:Unit)=>some<|-1)<|λr=>some r
theorem Kd [DecidableEq α]{l:List α}{a:α}(hl:l.length<=4611686018427387904):Lr l a=some (Jr l<|λx=>decide<|a=x):=by
 have:=uv (l:=l) (φ:=λx=>some<|decide<|a=x) (λx=>decide<|a=x) hl<|λ_ _=>rfl
 rw[<-this];rfl
def Bb [DecidableEq α](p0:List α)(p1:α):Option Bool:=(Lr p0 p1).bind λx3=>some<|decide<|x3>=0
theorem FI [DecidableEq α]{l:List α}{a:α}(hl:l.length<=4611686018427387904):Bb l a=some (decide<|a∈l):=by
 unfold Bb;rw[Kd hl,aB,Lq,Option.some.injEq,gS];simp
def Iu [DecidableEq α](p0 p1:List α):Option Bool:=
 bif((p0.length:Nat):Int) != ((p1.length:Nat):Int)then some false else((tL p0.length (λ(k1:Nat)(_:Unit)=>((idx p0 ((k1:Nat):Int)).bind λx13=>(idx p1 ((k1:Nat):Int)).bind λx16=>bif(!(decide<|x13=x16))then some (.rt false)else(some<|.nx ()):Option (Fl Unit Bool))) ()).bind λo23=>o23.cs (λ(_:Unit)=>some true)<|λr=>some r)
theorem EP [DecidableEq α]{l m:List α}(hl:l.length<=4611686018427387904):Iu l m=some (decide<|l=m):=by
 unfold Iu
 by_cases h:l.length=m.length
 ·have e:(((l.length:Nat):Int) != ((m.length:Nat):Int))=false:=by rw[h];simp
  rw[e,aQ]
  rw[o9 (λk=>if l[k]? =m[k]? then none else some false) hl (λk hk _=>by
   rw[l6 l k hk,aB,l6 m k (by omega),aB,aP hk,aP (by omega:k<m.length)]
   by_cases hx:l[k]=m[k] <;> simp[Kb,hx]),aB]
  by_cases hx:l=m
  ·subst hx;rw[jA.2<|λk _=>aG rfl];simp[FF,Fo.cs]
  ·have:∃r,nK l.length (λk=>if l[k]? =m[k]? then none else some false)=some r:=by
    cases hf:nK l.length (λk=>if l[k]? =m[k]? then none else some false)with
    |some r=>exact⟨r,rfl⟩
    |none=>
     exfalso;refine hx<|List.ext_getElem? λi=>?_
     by_cases hi:i<l.length
     ·have:=jA.1 hf i hi
      by_cases h6:l[i]? =m[i]?
      ·exact h6
      ·rw[aI h6]at this;cases this
     ·rw[List.getElem?_eq_none (by omega),List.getElem?_eq_none (by omega)]
   obtain⟨r,hr⟩:=this;have hr2:r=false:=by
    obtain⟨k,_,hk,_⟩:=iG.1 hr;split at hk
    ·cases hk
    ·injection hk with hk;exact hk.symm
   rw[hr,hr2];simp[FF,Fo.cs,hx]
 ·have e:(((l.length:Nat):Int) != ((m.length:Nat):Int))=true:=by simp;omega
  rw[e,aM,bQ<|λh'=>h (by rw[h'])]
def Sorted(key:α->eJ)(l:List α):Prop:=∀(i j:Nat)(x y:α),i<j->l[i]? =some x->l[j]? =some y->eJ.lt (key x) (key y)
theorem Sorted.inj{key:α->eJ}{l:List α}(h:Sorted key l){i j:Nat}{x y:α}(hx:l[i]? =some x)(hy:l[j]? =some y)(e:key x=key y):i=j:=by
 rcases Nat.lt_trichotomy i j with h1|h1|h1
 ·exact absurd e<|eJ.NO<|h i j x y h1 hx hy
 ·exact h1
 ·exact absurd e.symm<|eJ.NO<|h j i y x h1 hy hx
def Ls(N:Nat)(p0:List α)(p1:β)(p2:α->β->Option Int):Option (Int×Bool):=
 (jg (λ(s2:Int×Int)=>(bif decide (s2.1<s2.2)then((idx p0<|wrap .i64<|Int.fdiv (wrap .u64<|wrap .i64<|s2.1+s2.2) 2).bind λx13=>(p2 x13 p1).bind λx16=>(bif decide (x16<0)then some (wrap .i64<|wrap .i64 (Int.fdiv (wrap .u64<|wrap .i64<|s2.1+s2.2) 2)+1,s2.2)else some (s2.1,wrap .i64<|Int.fdiv (wrap .u64<|wrap .i64<|s2.1+s2.2) 2)).bind λs17=>some<|.nx (s17.1,s17.2))else(some<|.br (s2.1,s2.2)):Option (Fl (Int×Int) Empty))) N (0,((p0.length:Nat):Int))).bind λo29=>o29.cs (λ(s2:Int×Int)=>(bif decide (s2.1<((p0.length:Nat):Int))then((idx p0 s2.1).bind λx25=>(p2 x25 p1).bind λx28=>some<|x28==0)else some false).bind λs23=>some (s2.1,s23))<|λr=>r.elim
theorem Ke{a b:Nat}(h:a<b)(hb:b<=4611686018427387904):wrap .i64 (Int.fdiv (wrap .u64<|wrap .i64<|((a:Nat):Int)+((b:Nat):Int)) 2)=(((a+b) / 2:Nat):Int):=by
 rw[fP (x:=((a:Nat):Int)+((b:Nat):Int)) (by omega) (by omega)];have e:wrap .u64 (((a:Nat):Int)+((b:Nat):Int))=((a+b:Nat):Int):=by
  show((a:Int)+b) % 18446744073709551616=_;omega
 rw[e,Int.fdiv_eq_ediv_of_nonneg _ (by omega),fP (by omega) (by omega)];omega
end
end Go.Gk
namespace Go.Gk
open Go IntKind Go.ChangeShapes Go.WideShapes Go.RowKit
structure UB (ub:(H:Type)->DataW H->Nat) (ua:(H:Type)->List (DataW H)->Nat):Prop where
 str:∀(H:Type)(b:List UInt8),ub H (.lit<|.string b)=b.length+1
 pos:∀(H:Type)(d:DataW H),1<=ub H d
 sl:∀(H:Type)(e s:List (DataW H)),ub H (.slice e s)=ua H e+ua H s+1
 ag:∀(H:Type)(l:List (DataW H)),ub H (.agg l)=ua H l+1
 nil:∀(H:Type),ua H []=0
 cons:∀(H:Type)(x:DataW H)(l:List (DataW H)),ua H (x::l)=ub H x+ua H l
def Hw(w:World):eZ:=λb=>w.heap[b]?
structure kP (ub:(H:Type)->DataW H->Nat) (P:Program) (T:TypeId) (α:Type) [GT α] [Bk α]:Prop where
 trod:∀{H:Type}{enc:TypeId×Value->H}{w:World}{base:Nat}{spare:Nat->Bool}{held:Bool}{fuel:Nat}{cs:List Value}{d:DataW H×List MemPlace},
  DataW.trod enc P w base spare held fuel T cs=some d->∃x:α,GT.ok (Hw w) cs x/\bk x<=ub H d.1
 Qy:∀{w:World}{r:Reach}{base:Nat}{v:Value},Value.okWide P w r base T v->v=yV α v.cells.toList
section
variable {ub:(H:Type)->DataW H->Nat}{ua:(H:Type)->List (DataW H)->Nat}{P:Program}{T e:TypeId}
theorem Kf(u:UB ub ua)(ht:P.underlying T=some (.int .i64)):kP ub P T Int where
 trod:=λh=>by
  obtain⟨n,rfl,rfl,_⟩:=DataW.trod_int ht h;exact⟨n,rfl,u.pos _ _⟩
 Qy:=λh=>by obtain⟨n,rfl⟩:=okWide_int ht h;rfl
theorem Iv(u:UB ub ua)(ht:P.underlying T=some .bool):kP ub P T Bool where
 trod:=λh=>by
  obtain⟨n,rfl,rfl⟩:=DataW.trod_bool ht h;exact⟨n,rfl,u.pos _ _⟩
 Qy:=λh=>by obtain⟨n,rfl⟩:=okWide_bool ht h;rfl
theorem Kg(u:UB ub ua)(ht:P.underlying T=some .string):kP ub P T eJ where
 trod:=λh=>by
  obtain⟨s,rfl,rfl,_⟩:=DataW.trod_string ht h;refine⟨⟨s.data.toList⟩,?_,?_⟩
  ·show [Value.string s]= [Gk.str ⟨s.data.toList⟩]
   cases s;rfl
  ·rw[u.str];exact cH _
 Qy:=λh=>by obtain⟨n,rfl⟩:=okWide_string ht h;rfl
theorem BT{α:Type}{R:Nat->α->Prop}:∀(n:Nat),(∀i,i<n->∃x,R i x)->∃l:List α,l.length=n/\∀i x,l[i]? =some x->R i x
 | 0,_=>⟨[],rfl,λi x h=>by simp at h⟩
 |n+1,h=>by
  obtain⟨l,h1,h2⟩:=BT n<|λi hi=>h i (by omega)
  obtain⟨x,hx⟩:=h n (by omega);refine⟨l++[x],by simp[h1],λi y hy=>?_⟩
  by_cases hi:i<n
  ·rw[jB (by omega)]at hy;exact h2 i y hy
  ·have:=(bN.1 hy).1;rw[eL]at this;have:i=n:=by simp at this;omega
   subst this;rw[jC (by omega),h1]at hy;simp at hy;subst hy;exact hx
theorem ER{H α:Type}[Bk α](u:UB ub ua):∀{l:List α}{es:List (DataW H×List MemPlace)},l.length=es.length->
  (∀(i:Nat)(x:α)(y:DataW H×List MemPlace),l[i]? =some x->es[i]? =some y->bk x<=ub H y.1)->bk l<=ua H (es.map (·.1))+1
 | [],[],_,_=>by rw[Lp];omega
 |x::l,y::es,hl,h=>by
  have h1:=h 0 x y rfl rfl;have h2:=ER (H:=H) u (l:=l) (es:=es) (by simpa using hl)<|λi x y hx hy=>h (i+1) x y (by simpa using hx) (by simpa using hy)
  rw[FG,eY,u.cons];omega
theorem Hf{w:World}{base:Nat}{a:Addr}{n:Nat}{cs:List Value}(h:w.cells? base a n=some cs):At (Hw w) a cs:=by
 intro j v hv;obtain⟨_,hlen,hc⟩:=World.cells?_some h;have hj:=(bN.1 hv).1;have h2:=hc j (by omega);rw[hv]at h2;unfold zF Hw;unfold World.cell? at h2;exact h2
theorem qX{α:Type}[GT α][Bk α](u:UB ub ua)(he:kP ub P e α)(ht:P.underlying T=some (.slice e):=by kernel_rfl)(hc:P.cellsOf e=GT.sz α:=by kernel_rfl):kP ub P T (List α)where
 trod:=λ{H enc w base spare held fuel cs d}h=>by
  rcases DataW.trod_slice ht h with⟨rfl,rfl⟩|⟨a,len,cap,elems,rest,n,_,rfl,rfl,_,hlc,hcm,hlen,hel,_⟩
  ·exact⟨[],⟨_,rfl,none,0,0,rfl,rfl,cH _,by simp[maxLen],λi x hx=>by simp at hx⟩,u.pos _ _⟩
  ·have each:∀i,i<len->∃x:α,(∃c y,GT.ok (Hw w) c x/\At (Hw w) (a.add<|i*GT.sz α) c/\elems[i]? =some y/\bk x<=ub H y.1):=by
    intro i hi;have h1:=hel i hi;rw[aP (by omega:i<elems.length),Option.bind_eq_some_iff]at h1;obtain⟨c,h2,h3⟩:=h1;obtain⟨x,h4,h5⟩:=he.trod h3;refine⟨x,c,_,h4,?_,aP (by omega),h5⟩;rw[hc]at h2;exact Hf h2
   obtain⟨l,hl,hr⟩:=BT len each;refine⟨l,⟨_,rfl,some a,len,cap,rfl,hl.symm,hlc,hcm,λi x hx=>?_⟩,?_⟩
   ·obtain⟨c,y,h1,h2,_⟩:=hr i x hx;exact⟨a,c,rfl,h1,h2⟩
   ·have:=ER (H:=H) u (l:=l) (es:=elems) (by omega) (λi x y hx hy=>by
     obtain⟨c,y',_,_,h3,h4⟩:=hr i x hx
     rw[hy]at h3;injection h3 with h3;subst h3;exact h4)
    rw[u.sl];omega
 Qy:=λh=>by obtain⟨a,n,c,rfl⟩:=okWide_slice ht h;rfl
def Js(ub:(H:Type)->DataW H->Nat)(ua:(H:Type)->List (DataW H)->Nat)(P:Program)(off:Nat)(fs:List Field)(β:Type)[GT β](m:β->Nat):Prop:=
 ∀{H:Type}{enc:TypeId×Value->H}{w:World}{base:Nat}{spare:Nat->Bool}{held:Bool}{n:Nat}{cs:List Value}{ys:List (DataW H×List MemPlace)},
  (∀(i:Nat)(f:Field),fs[i]? =some f->DataW.trod enc P w base spare held n f.type ((cs.drop f.offset).take<|P.cellsOf f.type)=ys[i]?)->ys.length=fs.length->
  cs.length=off+GT.sz β->∃x:β,GT.ok (Hw w) (cs.drop off) x/\m x<=ua H (ys.map (·.1))
theorem oK{β:Type}[GT β][Bk β]{off:Nat}{f:Field}(u:UB ub ua)(h:kP ub P f.type β)(ho:f.offset=off:=by exact rfl)(hc:P.cellsOf f.type=GT.sz β:=by kernel_rfl):Js ub ua P off [f] β bk:=by
 intro H enc w base spare held n cs ys hf hl hcs
 match ys,hl with
 | [y],_=>
  have h1:=hf 0 f rfl;rw[ho,hc,mz (by rw[l3];omega)]at h1;obtain⟨x,h2,h3⟩:=h.trod (d:=y) h1;exact⟨x,h2,by rw[eY,u.cons];omega⟩
theorem fE{α β:Type}[GT α][GT β][Bk α]{off off':Nat}{f:Field}{fs:List Field}{m:β->Nat}(u:UB ub ua)(h:kP ub P f.type α)(hr:Js ub ua P off' fs β m)(ho:f.offset=off:=by exact rfl)(hc:P.cellsOf f.type=GT.sz α:=by kernel_rfl)(hoff:off'=off+GT.sz α:=by exact rfl):Js ub ua P off (f::fs) (α×β) (λx=>bk x.1+m x.2):=by
 intro H enc w base spare held n cs ys hf hl hcs;have hsz:GT.sz (α×β)=GT.sz α+GT.sz β:=rfl
 match ys,hl with
 |y::ys,hl=>
  have h1:=hf 0 f rfl;rw[ho,hc]at h1;obtain⟨x,h2,h3⟩:=h.trod (d:=y) h1;obtain⟨x',h4,h5⟩:=hr (n:=n) (cs:=cs) (ys:=ys) (λi g hg=>hf (i+1) g hg) (by simpa using hl) (by omega);refine⟨(x,x'),⟨_,_,?_,h2,h4⟩,?_⟩
  ·rw[hoff,<-List.drop_drop,List.take_append_drop]
  ·rw[eY,u.cons];show bk x+m x'<=_;omega
theorem kJ{γ β:Type}[GT β][Bk γ]{fs:Array Field}{m:β->Nat}(u:UB ub ua)(f:γ->β)(g:β->γ)(hfg:∀b,f (g b)=b)(ht:P.underlying T=some (.struct fs))(h:Js ub ua P 0 fs.toList β m)(hm:∀b,bk (g b)<=m b+1)(hc:P.cellsOf T=GT.sz β:=by kernel_rfl): @kP ub P T γ (GT.via f) _:=
 @kP.mk ub P T γ (GT.via f) _
  (λ{H enc w base spare held fuel cs d}hd=>by
   obtain⟨xs,n,_,rfl,hl,hlen,hf⟩:=DataW.trod_struct ht hd;obtain⟨b,h1,h2⟩:=h (n:=n) (cs:=cs) (ys:=xs) (λi g hg=>hf i g (by rw[<-Array.getElem?_toList];exact hg)) (by rw[hlen];simp) (by omega);refine⟨g b,?_,?_⟩
   ·show GT.ok (Hw w) cs (f<|g b);rw[hfg];exact h1
   ·rw[u.ag];have:=hm b;omega)
  (λhv=>by
   obtain⟨cs,rfl,_⟩:=okWide_struct ht hv
   cases cs;rfl)
theorem kP.arg{H:Type}{enc:TypeId×Value->H}{w:World}{base:Nat}{spare:Nat->Bool}{held:Bool}{r:Reach}{b0:Nat}{v:Value}{d:DataW H}{ps:List MemPlace}{α:Type}[GT α][Bk α](o:kP ub P T α)
  (hv:Value.okWide P w r b0 T v) (hd:DataW.Trod enc P w base spare held T v d ps):∃x:α,yW (Hw w) v x/\bk x<=ub H d:=by
 obtain⟨fuel,hf⟩:=hd;obtain⟨x,h1,h2⟩:=o.trod hf;exact⟨x,⟨_,o.Qy hv,h1⟩,h2⟩
end
theorem Calls.fin{P:Program}{f:FuncId}{args:Array Value}{w:World}{R Q:Value->World->Prop}(h:Calls P f args w (fT R))(k:∀v w',R v w'->Q v w'):
  Calls P f args w (λe W'=>∃v,e = .returned v/\Q v W'):=Calls.mono h λ_ w'⟨v,e,hr⟩=>⟨v,e,k v w' hr⟩
def iC(W:World):HP:=⟨λM h=>hle (Hw W) M/\h=tJ,λk⟨a,b⟩=>⟨JU a k,b⟩⟩
theorem Holds.begin(W:World):Holds W W [iC W]:=by
 refine⟨Hw W,λ_=>tJ,⟨rfl,rfl,rfl,cH _,λb o h=>h,λi Pr hq=>?_,λ_ _ _ _ h=>(by cases h),λ_ _ _ _ h=>(by cases h),λ_ _ _ _ _ _ _ h=>(by cases h)⟩⟩
 match i,hq with
 | 0,hq=>simp at hq;subst hq;exact⟨KM _,rfl⟩
theorem Holds.Lt{α:Type}[GT α]{W:World}{V:List HP}{v:Value}{x:α}(h:Holds W W (V++[iC W]))(hv:Gk.yW (Hw W) v x):Holds W W (rd v x::(V++[iC W])):=
 h.D5 λM hs g=>by
  have h1:=(g.sat V.length (iC W) (by simp)).1;exact⟨hv.mono h1,rfl⟩
theorem Holds.kept{E W w:World}{V:List HP}(h:Holds E w (V++[iC W]))(he:E=W):Below W.heap.size W w:=by
 subst he;obtain⟨M,hs,g⟩:=h;have h1:=(g.sat V.length (iC E) (by simp)).1;have h2:∀k o,E.heap[k]? =some o->w.heap[k]? =some o:=λk o ho=>g.im k o<|h1 k o ho
 refine⟨g.os,g.tape,g.out,?_,λk hk=>?_⟩
 ·by_cases h0:E.heap.size=0
  ·omega
  ·have h3:=h2 (E.heap.size - 1) _<|jZ (by omega)
   have:=(Array.getElem?_eq_some_iff.1 h3).1;omega
 ·rw[jZ hk];exact h2 k _<|jZ hk
section
variable {H:Type}{enc:TypeId×Value->H}{P:Program}
theorem Kh{f:Func}{s:ChangeSpec}{apart fresh handsOn again:Bool}{W W':World}{args:Array Value}{v:Value}{ds gs:List (DataW H)}{before pa pv:List MemPlace}
  (hW:DataW.Whole enc P f.params.toList s.vars apart W args.toList ds gs before)
  (hres:∀(b:Nat)(sp:Nat->Bool)(hd:Bool),DataW.TrodAll enc P W' b sp hd f.resultTypes.toList (v.resultList f.resultTypes.size) (s.fn H<|ds++gs).results [])
  (hargs:∀sp:Nat->Bool,(∀p∈before,sp p.block=true)->DataW.TrodAll enc P W' 0 sp true f.params.toList args.toList (s.fn H<|ds++gs).args pa)
  (hvars:∀sp:Nat->Bool,(∀p∈before,sp p.block=true)->DataW.TrodVars enc P W' sp s.vars (s.fn H<|ds++gs).vars pv)
  (hps:before=pa++pv) (hb:Below W.heap.size W W')
  (hok:∀(j:Nat)(t:TypeId)(r:Value),f.resultTypes[j]? =some t->(v.resultList f.resultTypes.size)[j]? =some r->Value.okWide P W' .any 0 t r):
  s.post enc P f apart fresh handsOn again W args v W':=by
 have hlt:∀p∈before,p.block<W.heap.size:=λp hp=>hW.lt p hp;have hold:∀p∈before,(λb=>decide<|b<W.heap.size) p.block=true:=λp hp=>by simpa using hlt p hp
 refine⟨ds,gs,before,[],pa,pv,hW,hres _ _ _,hargs _ hold,hvars _ hold,World.keptBut_mono (λp hp=>⟨hp,?_⟩)<|hb.frame (· ∈before),λ_=>?_⟩
 ·rw[hps,dD]at hp;exact Or.inr hp
 ·obtain⟨_,_,_,_,_,hz,hn⟩:=hW;refine⟨hok,_,_,([]++pa)++pv,⟨[]++pa,pv,trodAll_append (hargs _<|λ_ _=>rfl)<|hres _ _ _,hvars _<|λ_ _=>rfl,rfl,?_,?_⟩,?_⟩
  ·intro b off hp;have hin:MemPlace.cell b off∈before:=by rw[hps];simpa using hp
   rw[hb.frozen<|hlt _ hin];exact hz b off hin
  ·intro ha;have:=hn ha;rw[hps]at this;simpa using this
  ·intro p hp _;rw[hps];simpa using hp
theorem yO{W W':World}(hl:laidOutB P=true)(hb:Below W.heap.size W W'){sp:Nat->Bool}:∀{ts:List TypeId}{vs:List Value}{ds:List (DataW H)}{ps:List MemPlace},
  (∀t∈ts,P.readableRec t=true/\t<P.types.size)->DataW.TrodAll enc P W 0 (λ_=>true) true ts vs ds ps->(∀p∈ps,p.block<W.heap.size)->(∀p∈ps,sp p.block=true)->DataW.TrodAll enc P W' 0 sp true ts vs ds ps
 | [],_,_,_,_,h,_,_=>by
  obtain⟨rfl,rfl,rfl⟩:=trodAll_nil h;rfl
 |t::ts,_,_,_,ht,h,hlt,hsp=>by
  obtain⟨v,vs,d,ds,p,q,rfl,rfl,rfl,h1,h2⟩:=trodAll_cons h;refine⟨p,q,?_,yO hl hb (λt h=>ht t (by simp[h])) h2 (λx hx=>hlt x (by simp[hx]))<|λx hx=>hsp x (by simp[hx]),rfl⟩;exact WideElems.Trod_stays hl (ht t (by simp)).1 (ht t (by simp)).2 h1 (λx hx=>hb.same<|hlt x (by simp[hx]))<|λx hx=>hsp x (by simp[hx])
end
end Go.Gk
namespace Go.Gk
open Go IntKind
instance:Bk aH:=⟨λx=>bk x.X0+bk x.Y0+bk x.X1+bk x.Y1+1,λ_=>by omega⟩
theorem MK(x:aH):bk x=bk x.X0+bk x.Y0+bk x.X1+bk x.Y1+1:=rfl
instance:Bk jX:=⟨λx=>bk x.X+bk x.Y+1,λ_=>by omega⟩
theorem Lu(x:jX):bk x=bk x.X+bk x.Y+1:=rfl
instance:Bk bR:=⟨λx=>bk x.At+bk x.dT+bk x.cR+bk x.To+bk x.eN+1,λ_=>by omega⟩
theorem ML(x:bR):bk x=bk x.At+bk x.dT+bk x.cR+bk x.To+bk x.eN+1:=rfl
instance:Bk cS:=⟨λx=>bk x.Part+bk x.dQ+bk x.dN+bk x.At+1,λ_=>by omega⟩
theorem Jt(x:cS):bk x=bk x.Part+bk x.dQ+bk x.dN+bk x.At+1:=rfl
instance:Bk gQ:=⟨λx=>bk x.aK+bk x.cJ+bk x.aN+bk x.bJ+1,λ_=>by omega⟩
theorem Lv(x:gQ):bk x=bk x.aK+bk x.cJ+bk x.aN+bk x.bJ+1:=rfl
instance:Bk dQ:=⟨λx=>bk x.Part+bk x.dQ+1,λ_=>by omega⟩
theorem OA(x:dQ):bk x=bk x.Part+bk x.dQ+1:=rfl
instance:Bk Test:=⟨λx=>bk x.A+bk x.B+bk x.Joined+1,λ_=>by omega⟩
theorem MM(x:Test):bk x=bk x.A+bk x.B+bk x.Joined+1:=rfl
instance:Bk dK:=⟨λx=>bk x.bR+bk x.Number+1,λ_=>by omega⟩
theorem OB(x:dK):bk x=bk x.bR+bk x.Number+1:=rfl
instance:Bk dX:=⟨λx=>bk x.Open+bk x.dK+bk x.A+bk x.B+1,λ_=>by omega⟩
theorem MN(x:dX):bk x=bk x.Open+bk x.dK+bk x.A+bk x.B+1:=rfl
instance:Bk aA:=⟨λx=>bk x.Y0+bk x.Y1+bk x.Xs+1,λ_=>by omega⟩
instance:Bk aF:=⟨λx=>bk x.dN+bk x.Set+bk x.gU+1,λ_=>by omega⟩
instance:Bk cF:=⟨λx=>bk x.kX+bk x.aN+bk x.gL+1,λ_=>by omega⟩
instance:Bk aD:=⟨λx=>bk x.from_+bk x.to+1,λ_=>by omega⟩
instance:Bk aO:=⟨λx=>bk x.from_+bk x.to+bk x.jY+1,λ_=>by omega⟩
end Go.Gk
namespace Go.Gk
open Go IntKind Go.Sort
section
variable {α:Type}
theorem BU{β:Type}(a:Array β){n:Nat}(h:a.size=n):a.extract 0 n=a:=by subst h;exact Array.extract_size
theorem OC{φ:α->α->Option Int}{l:List α}(cf:α->α->Int)(hφ:∀x∈l,∀y∈l,φ x y=some (cf x y))(h1:∀x∈l,¬cf x x<0)
  (h2:∀x∈l,∀y∈l,∀z∈l,cf x y<0->cf y z<0->cf x z<0) (h3:∀x∈l,∀y∈l,∀z∈l,¬cf x y<0->¬cf y z<0->¬cf x z<0):SWO (Me<|GI φ l):=by
 have hm:∀i:Fin l.length,l[i]∈l:=λi=>cL i.isLt;have e:∀i j:Fin l.length,GI φ l i j=cf l[i] l[j]:=λi j=>by unfold GI;rw[hφ _ (hm i) _<|hm j];rfl
 refine⟨λx=>?_,λx y z=>?_,λx y z=>?_⟩
 ·simp only[Me,e,decide_eq_false_iff_not];exact h1 _<|hm _
 ·simp only[Me,e,decide_eq_true_iff];exact h2 _ (hm _) _ (hm _) _<|hm _
 ·simp only[Me,e,decide_eq_false_iff_not];exact h3 _ (hm _) _ (hm _) _<|hm _
theorem Da{φ:α->α->Option Int}{l:List α}(cf:α->α->Int)(hφ:∀x∈l,∀y∈l,φ x y=some (cf x y))(h1:∀x∈l,¬cf x x<0)
  (h2:∀x∈l,∀y∈l,∀z∈l,cf x y<0->cf y z<0->cf x z<0) (h3:∀x∈l,∀y∈l,∀z∈l,¬cf x y<0->¬cf y z<0->¬cf x z<0) (hl:l.length<4611686018427387904):
  ∃m,zR φ l=some m/\m.Perm l/\m.Pairwise (λx y=>¬cf y x<0):=by
 have hO:=OC cf hφ h1 h2 h3;have hm:∀i:Fin l.length,l[i]∈l:=λi=>cL i.isLt;have hc:(∀i j:Fin l.length,∃c,φ l[i] l[j]=some c):=λi j=>⟨_,hφ _ (hm i) _<|hm j⟩;refine⟨Jc φ l,by unfold zR;rw[aG ⟨⟨hc,hO⟩,hl⟩],?_⟩;unfold Jc
 by_cases hn:0<l.length
 ·rw[dif_pos hn]
  letI inh:Inhabited (Fin l.length):=⟨⟨0,hn⟩⟩
  have hds:(Array.ofFn λi:Fin l.length=>i).size=l.length:=by simp
  obtain⟨hp,hs⟩:=pdq_sorts (Me<|GI φ l) hO (Array.ofFn λi:Fin l.length=>i) 0 l.length (Lib.bitLen l.length) true true (cT _) (by rw[hds];exact cH _)<|Or.inl rfl
  show(List.map (λi=>l[i]) (pdq (Me<|GI φ l) (Array.ofFn λi:Fin l.length=>i) 0 l.length (Lib.bitLen l.length) true true).toList).Perm l/\_;generalize pdq (Me<|GI φ l) (Array.ofFn λi:Fin l.length=>i) 0 l.length (Lib.bitLen l.length) true true=d' at hp hs;obtain⟨hz,_,hpm⟩:=hp;have hz':d'.size=l.length:=hz.trans hds;rw[BU d' hz',BU _ hds]at hpm;have hof:(Array.ofFn λi:Fin l.length=>i).toList.map (λi=>l[i])=l:=by
   rw[Array.toList_ofFn,List.map_ofFn];exact List.ofFn_getElem
  refine⟨(hpm.map<|λi=>l[i]).trans<|List.Perm.of_eq hof,?_⟩;rw[List.pairwise_map,ov];intro i j hi hj hij;rw[Array.length_toList]at hi hj;have:=hs i j (cT _) hij (by rw[<-hz'];exact hj);rw[getElem!_pos d' i hi,getElem!_pos d' j hj]at this;have hij2:=hφ _ (hm<|d'[j]) _<|hm<|d'[i]
  have hij3:GI φ l d'[j] d'[i]=cf l[d'[j]] l[d'[i]]:=by unfold GI;rw[hij2];rfl
  unfold Me at this;rw[decide_eq_false_iff_not,hij3]at this;exact this
 ·rw[dif_neg hn];have:l= []:=List.length_eq_zero_iff.1 (by omega);subst this;exact⟨List.Perm.refl _,kH⟩
theorem ES{φ:α->α->Option Int}{x:α}(h:φ x x=some 0):zR φ [x]=some [x]:=by
 obtain⟨m,h1,h2,_⟩:=Da (φ:=φ) (l:=[x]) (λ_ _=>0) (λa ha b hb=>by simp at ha hb;rw[ha,hb];exact h) (λ_ _=>by decide) (λ_ _ _ _ _ _ h=>by simp at h) (λ_ _ _ _ _ _ _ _=>by decide) (by simp);rw[h1,List.perm_singleton.1 h2]
theorem Ei{l:List Int}(h:l.Pairwise (λx y=>x<=y))(hl:l.length<4611686018427387904):w6 l=some l:=by
 unfold w6;rw[aG hl,List.mergeSort_of_pairwise (by simpa using h)]
end
end Go.Gk
namespace Go.Gk
open Go IntKind
def pF(l:List Int)(x:Int):Nat:=l.countP<|λa=>decide<|a<=x
def qJ(l:List Int)(x:Int):Bool:=pF l x % 2==1
def j7(l:List Int):Prop:=l.Pairwise (· < ·)
theorem FL(x:Int):pF [] x=0:=rfl
theorem pq(a:Int)(l:List Int)(x:Int):pF (a::l) x=(if a<=x then 1 else 0)+pF l x:=by
 grind [pF]
theorem Db(l m:List Int)(x:Int):pF (l++m) x=pF l x+pF m x:=List.countP_append
theorem Jv{l:List Int}{x:Int}(h:∀a∈l,a<=x):pF l x=l.length:=by
 grind [pF,List.countP_eq_length]
theorem Dc{l:List Int}{x:Int}(h:∀a∈l,x<a):pF l x=0:=by
 grind [pF,List.countP_eq_zero]
theorem As{l:List Int}{x:Int}:qJ l x=true↔pF l x % 2=1:=by simp[qJ]
theorem Au{l:List Int}{x:Int}(h:∀a∈l,x<a):qJ l x=false:=by grind [qJ,Dc]
theorem j7.head{a:Int}{l:List Int}(h:j7 (a::l)):∀b∈l,a<b:=(pz.1 h).1
theorem j7.tail{a:Int}{l:List Int}(h:j7 (a::l)):j7 l:=(pz.1 h).2
theorem Av{a:Int}{l:List Int}(h:j7 (a::l)):qJ (a::l) a=true:=by
 rw[As,pq,aG<|Int.le_refl _,Dc h.head]
theorem Dd:∀{l m:List Int},j7 l->j7 m->(∀x,qJ l x=qJ m x)->l=m
 | [],[],_,_,_=>rfl
 | [],b::m,_,hm,h=>by have:=h b;rw[Av hm]at this;cases this
 |a::l,[],hl,_,h=>by have:=h a;rw[Av hl]at this;cases this
 |a::l,b::m,hl,hm,h=>by
  have hab:a=b:=by
   rcases Int.lt_trichotomy a b with h1|h1|h1
   ·have h2:=h a
    rw[Av hl,Au (l:=b::m) (λc hc=>by
     rcases eF.1 hc with rfl|hc
     ·exact h1
     ·have:=hm.head c hc;omega)]at h2
    cases h2
   ·exact h1
   ·have h2:=h b
    rw[Av hm,Au (l:=a::l) (λc hc=>by
     rcases eF.1 hc with rfl|hc
     ·exact h1
     ·have:=hl.head c hc;omega)]at h2
    cases h2
  subst hab;rw[Dd hl.tail hm.tail<|λx=>?_]
  by_cases hx:a<=x
  ·have h2:=h x;unfold qJ at h2 ⊢;rw[pq,pq,aG hx]at h2;rw[gS]at h2 ⊢;simp only[beq_iff_eq]at h2 ⊢;omega
  ·rw[Au (λc hc=>by have:=hl.head c hc;omega),Au (λc hc=>by have:=hm.head c hc;omega)]
theorem De{l:List Int}{a b:Int}(hl:∀c∈l,c<a)(he:l.length % 2=0)(hab:a<b)(x:Int):qJ (l++[a,b]) x=(qJ l x||(decide (a<=x)&&decide (x<b))):=by
 rw[gS,gR,cO,cP,cP,As,As,Db,pq,pq,FL]
 grind [pF,Jv]
theorem Ly{l:List Int}{s e a b:Int}(hl:∀c∈l,c<s)(he:l.length % 2=0)(hs:s<e)(h1:s<=a)(h2:a<=e)(hab:a<b)(x:Int):qJ (l++[s,max e b]) x=(qJ (l++[s,e]) x||(decide (a<=x)&&decide (x<b))):=by
 grind [De]
theorem j7.snoc{l:List Int}{a b:Int}(h:j7 l)(hl:∀c∈l,c<a)(hab:a<b):j7 (l++[a,b]):=by
 grind [j7]
structure Bd where
 y0:Int
 y1:Int
 xs:List Int
def rowAt:List Bd->Int->List Int
 | [],_=>[]
 |b::s,y=>if b.y0<=y/\y<b.y1 then b.xs else rowAt s y
theorem n8(b:Bd)(s:List Bd)(y:Int):rowAt (b::s) y=if b.y0<=y/\y<b.y1 then b.xs else rowAt s y:=rfl
structure fF (s:List Bd):Prop where
 each:∀b∈s,b.y0<b.y1/\b.xs≠[]/\j7 b.xs/\b.xs.length % 2=0
 ord:s.Pairwise (λb c=>b.y1<=c.y0/\(b.y1=c.y0->b.xs≠c.xs))
theorem fF.nil:fF []:=⟨λb h=>by simp at h,kH⟩
theorem fF.tail{b:Bd}{s:List Bd}(h:fF (b::s)):fF s:=⟨λc hc=>h.each c<|kg _ hc,(pz.1 h.ord).2⟩
theorem mG{s:List Bd}{y:Int}(h:∀b∈s,y<b.y0\/b.y1<=y):rowAt s y= []:=by
 induction s with
 |nil=>rfl
 |cons b s ih=>
  grind [rowAt,kg]
theorem sL(s t:List Bd)(y:Int):rowAt (s++t) y=if(∃b∈s,b.y0<=y/\y<b.y1)then rowAt s y else rowAt t y:=by
 induction s with
 |nil=>simp
 |cons b s ih=>
  rw[List.cons_append,n8,n8]
  by_cases h:b.y0<=y/\y<b.y1
  ·simp_all
  ·rw[aI h,ih]
   by_cases h2:∃c∈s,c.y0<=y/\y<c.y1
   ·simp_all[aG,kg,aI]
   grind
theorem fF.n9{b:Bd}{s:List Bd}{y:Int}(h0:b.y0<=y)(h1:y<b.y1):rowAt (b::s) y=b.xs:=by grind [rowAt]
theorem fF.Df{b:Bd}{s:List Bd}(h:fF (b::s)):∀c∈s,b.y1<=c.y0:=λc hc=>((pz.1 h.ord).1 c hc).1
theorem fF.x9{b:Bd}{s:List Bd}(h:fF (b::s)){y:Int}(hy:y<b.y0):rowAt (b::s) y= []:=mG λc hc=>by
 rcases eF.1 hc with rfl|hc
 ·exact .inl hy
 ·have:=h.Df c hc;have:=(h.each b (by simp)).1;exact .inl (by omega)
theorem fF.Jw{b:Bd}{s:List Bd}(h:fF (b::s)):rowAt (b::s) b.y1≠b.xs:=by
 rw[n8,aI (by omega)]
 cases s with
 |nil=>exact λe=>(h.each b (by simp)).2.1 e.symm
 |cons c s=>
  have h1:=(pz.1 h.ord).1 c (by simp)
  by_cases e:b.y1=c.y0
  ·rw[fF.n9 (by omega) (by have:=(h.tail.each c (by simp)).1;omega)]
   grind
  ·rw[h.tail.x9 (by omega)];exact λe=>(h.each b (by simp)).2.1 e.symm
theorem Dg:∀{s t:List Bd},fF s->fF t->(∀y,rowAt s y=rowAt t y)->s=t
 | [],[],_,_,_=>rfl
 | [],c::t,_,ht,h=>by
  have hc:=ht.each c (by simp);have:=h c.y0;rw[fF.n9 (Int.le_refl _) hc.1]at this;exact absurd this.symm hc.2.1
 |b::s,[],hs,_,h=>by
  have hb:=hs.each b (by simp);have:=h b.y0;rw[fF.n9 (Int.le_refl _) hb.1]at this;exact absurd this hb.2.1
 |b::s,c::t,hs,ht,h=>by
  have hb:=hs.each b (by simp);have hc:=ht.each c (by simp);have e0:b.y0=c.y0:=by
   rcases Int.lt_trichotomy b.y0 c.y0 with h1|h1|h1
   ·have h2:=h b.y0;rw[fF.n9 (Int.le_refl _) hb.1,ht.x9 h1]at h2;exact absurd h2 hb.2.1
   ·exact h1
   ·have h2:=h c.y0;rw[fF.n9 (Int.le_refl _) hc.1,hs.x9 h1]at h2;exact absurd h2.symm hc.2.1
  have ex:b.xs=c.xs:=by
   have h2:=h b.y0;rw[fF.n9 (Int.le_refl _) hb.1,fF.n9 (by omega) (by omega)]at h2;exact h2
  have e1:b.y1=c.y1:=by
   rcases Int.lt_trichotomy b.y1 c.y1 with h1|h1|h1
   ·have h2:=h b.y1;rw[fF.n9 (b:=c) (by omega) h1]at h2;exact absurd (h2.trans ex.symm) hs.Jw
   ·exact h1
   ·have h2:=h c.y1;rw[fF.n9 (b:=b) (by omega) h1]at h2;exact absurd (h2.symm.trans ex) ht.Jw
  have ebc:b=c:=by cases b;cases c;simp_all
  subst ebc;rw[Dg hs.tail ht.tail<|λy=>?_]
  by_cases hy:b.y1<=y
  ·have h2:=h y;unfold rowAt at h2;rw[aI (by omega),aI (by omega)]at h2;exact h2
  ·rw[mG (λd hd=>by have:=hs.Df d hd;omega),mG (λd hd=>by have:=ht.Df d hd;omega)]
def wX(s:List Bd)(x y:Int):Bool:=qJ (rowAt s y) x
theorem ET{s:List Bd}(h:∀b∈s,j7 b.xs)(y:Int):j7 (rowAt s y):=by
 induction s with
 |nil=>exact kH
 |cons b s ih=>
  grind [rowAt,kg]
theorem wc{s t:List Bd}(hs:fF s)(ht:fF t)(h:∀x y,wX s x y=wX t x y):s=t:=
 Dg hs ht λy=>Dd (ET (λb hb=>(hs.each b hb).2.2.1) y) (ET (λb hb=>(ht.each b hb).2.2.1) y) λx=>h x y
def ko(s:List Bd)(b:Bd):List Bd:=
 if b.xs= []\/b.y1<=b.y0 then s else
  match s.getLast? with
  |some c=>if c.y1=b.y0/\c.xs=b.xs then s.dropLast++[⟨c.y0,b.y1,c.xs⟩]else s++[b]
  |none=>[b]
theorem tz{α:Type}{s:List α}{c:α}(h:s.getLast? =some c):s=s.dropLast++[c]:=by
 have hne:s≠[]:=λe=>by grind
 grind [List.getLast?_eq_some_getLast,List.dropLast_concat_getLast]
theorem ya{s:List Bd}{b:Bd}(hs:∀c∈s,c.y1<=b.y0)(hg:∀c∈s,c.y0<c.y1)(hb:b.y1<=b.y0->b.y1=b.y0)(y:Int):rowAt (ko s b) y=if b.y0<=y/\y<b.y1 then b.xs else rowAt s y:=by
 have key:∀(s:List Bd)(c:Bd),(∀d∈s,d.y1<=c.y0)->rowAt (s++[c]) y=if c.y0<=y/\y<c.y1 then c.xs else rowAt s y:=by
  intro s c h;rw[sL]
  by_cases h1:c.y0<=y/\y<c.y1
  ·grind [fF.n9]
  ·rw[aI h1]
   by_cases h2:∃d∈s,d.y0<=y/\y<d.y1
   all_goals grind [n8,rowAt,mG]
 unfold ko
 by_cases h0:b.xs= []\/b.y1<=b.y0
 ·grind [mG]
 ·rw[aI h0]
  cases hl:s.getLast? with
  |none=>
   have:s= []:=by simp_all
   subst this;rfl
  |some c=>
   dsimp only;have hsp:=tz hl;have hcm:c∈s:=by rw[hsp];simp
   by_cases h1:c.y1=b.y0/\c.xs=b.xs
   ·rw[aG h1];have hd:∀d∈s.dropLast,d.y1<=c.y0\/True:=λ_ _=> .inr trivial;rw[sL];have hrow:rowAt s y=if(∃d∈s.dropLast,d.y0<=y/\y<d.y1)then rowAt s.dropLast y else(if c.y0<=y/\y<c.y1 then c.xs else []):=by
     conv=>lhs;rw[hsp]
     rw[sL];rfl
    rw[hrow];have hcg:=hg c hcm
    by_cases h2:∃d∈s.dropLast,d.y0<=y/\y<d.y1
    ·obtain⟨d,hd,hd2⟩:=h2;have:=hs d<|List.dropLast_subset _ hd
     have he:∃d∈s.dropLast,d.y0<=y/\y<d.y1:=⟨d,hd,hd2⟩;rw[aG he,aG he,aI (by omega)]
    ·rw[aI h2,aI h2];show(if c.y0<=y/\y<b.y1 then c.xs else [])=_
     by_cases h3:b.y0<=y/\y<b.y1
     ·rw[aG h3,aG ⟨by omega,h3.2⟩,h1.2]
     ·rw[aI h3]
      by_cases h4:c.y0<=y/\y<c.y1
      ·rw[aG h4,aG ⟨h4.1,by omega⟩]
      ·rw[aI h4,aI (by omega)]
   ·rw[aI h1];exact key s b hs
theorem yb{s:List Bd}{b:Bd}(h:fF s)(hs:∀c∈s,c.y1<=b.y0)(hb:j7 b.xs)(he:b.xs.length % 2=0):fF (ko s b):=by
 unfold ko
 by_cases h0:b.xs= []\/b.y1<=b.y0
 ·grind
 ·rw[aI h0];have hbg:b.y0<b.y1/\b.xs≠[]/\j7 b.xs/\b.xs.length % 2=0:=⟨by omega,λe=>h0<|.inl e,hb,he⟩
  cases hl:s.getLast? with
  |none=>exact⟨λc hc=>by grind,List.pairwise_singleton _ _⟩
  |some c=>
   dsimp only;have hsp:=tz hl;have hcm:c∈s:=by rw[hsp];simp
   have hc:=h.each c hcm;have hord:=h.ord;rw[hsp,List.pairwise_append]at hord
   by_cases h1:c.y1=b.y0/\c.xs=b.xs
   ·rw[aG h1];refine⟨λd hd=>?_,?_⟩
    ·rcases dD.1 hd with hd|hd
     ·exact h.each d<|List.dropLast_subset _ hd
     grind
    grind
   ·rw[aI h1];refine⟨λd hd=>?_,?_⟩
    ·rcases dD.1 hd with hd|hd
     ·exact h.each d hd
     ·simp at hd;subst hd;exact hbg
    ·rw[List.pairwise_append];refine⟨h.ord,List.pairwise_singleton _ _,λd hd e he=>?_⟩;simp at he;subst he;refine⟨hs d hd,λe1 e2=>?_⟩;rw[hsp]at hd
     rcases dD.1 hd with hd|hd
     ·have h2:=(hord.2.2 d hd c (by simp)).1;have:=hs c hcm;omega
     ·simp at hd;subst hd;exact h1 ⟨e1,e2⟩
theorem yc{s:List Bd}{b:Bd}(hs:∀c∈s,c.y1<=b.y0)(hb:b.y0<=b.y1):∀c∈ko s b,c.y1<=b.y1:=by
 grind [ko,List.dropLast_subset]
section
variable {N:Nat}
def cG(b:aA):Bd:=⟨b.Y0,b.Y1,b.Xs⟩
def small(a:Int):Prop:= -1099511627776<=a/\a<=1099511627776
structure D3 (r:aH):Prop where
 x:r.X0<r.X1
 y:r.Y0<r.Y1
 s1:small r.X0
 s2:small r.X1
 s3:small r.Y0
 s4:small r.Y1
def Iy(l:List aH)(x:Int):Bool:=l.any<|λr=>decide (r.X0<=x)&&decide (x<r.X1)
def uE(l:List aH)(x y:Int):Bool:=l.any<|λr=>(decide (r.X0<=x)&&decide (x<r.X1))&&(decide (r.Y0<=y)&&decide (y<r.Y1))
theorem Dh{l:List aH}{x:Int}:Iy l x=true↔∃r∈l,r.X0<=x/\x<r.X1:=by unfold Iy;simp[kI]
theorem kL{l:List aH}{x y:Int}:uE l x y=true↔∃r∈l,(r.X0<=x/\x<r.X1)/\r.Y0<=y/\y<r.Y1:=by unfold uE;simp[kI]
theorem wrap_small{a b:Int}(ha:small a)(hb:small b):wrap .i64 (a - b)=a - b:=by unfold small at *;exact fP (by omega) (by omega)
theorem Di{n:Nat}(h:0<n)(hn:n<=4611686018427387904):wrap .i64 (((n:Nat):Int) - 1)=((n - 1:Nat):Int):=ja h hn
structure Sm (out:List Int) (m:List aH) (k:Nat):Prop where
 row:(k=0/\out= [])\/∃A s e,out=A++[s,e]/\j7 A/\(∀c∈A,c<s)/\A.length % 2=0/\s<e/\∃j r,j<k/\m[j]? =some r/\s=r.X0
 qJ:∀x,qJ out x=Iy (m.take k) x
 len:out.length<=2*k
 mem:∀c∈out,∃r∈m,c=r.X0\/c=r.X1
theorem Bi(l:List aH)(r:aH)(x:Int):Iy (l++[r]) x=(Iy l x||(decide (r.X0<=x)&&decide (x<r.X1))):=by unfold Iy;rw[List.any_append];simp
theorem FM{l:List aH}(hl:l.length<=268435456)(hok:∀r∈l,D3 r):∃row l',kx N l=some (row,l')/\l'.Perm l/\j7 row/\row.length % 2=0/\(∀x,qJ row x=Iy l x)/\row.length<=2*l.length/\∀c∈row,∃r∈l,c=r.X0\/c=r.X1:=by
 unfold kx
 obtain⟨m,h1,h2,h3⟩:=Da (φ:=iS N) (l:=l) (λa b=>a.X0 - b.X0) (λa ha b hb=>by
  unfold iS;rw[wrap_small (hok a ha).s1 (hok b hb).s1]) (λa _=>by omega) (λa _ b _ c _ h1 h2=>by omega) (λa _ b _ c _ h1 h2=>by omega) (by omega)
 have hml:m.length=l.length:=h2.length_eq;have hmok:∀r∈m,D3 r:=λr hr=>hok r<|h2.subset hr
 rw[h1,aB];obtain⟨out,a1,a2⟩:=Cz (m:=m.length) (s:=([]:List Int)) (body:=λ(k32:Nat)(s33:List Int)=>((idx m (k32:Int)).bind λx79=>(bif decide (wrap .i64 ((s33.length:Int) - 1)>=0)then((idx s33<|wrap .i64<|(s33.length:Int) - 1).bind λx86=>some<|decide<|x79.X0<=x86)else some false).bind λs84=>(bif s84 then((idx s33<|wrap .i64<|(s33.length:Int) - 1).bind λx94=>(idx s33<|wrap .i64<|(s33.length:Int) - 1).bind λx95=>some<|s33.set (Int.toNat<|wrap .i64<|(s33.length:Int) - 1) (if x94<x79.X1 then x79.X1 else x94))else((app 8 s33 ([x79.X0,x79.X1]:List Int)).bind λx97=>some x97)).bind λs92=>some s92:Option (List Int)))
  (λk out=>Sm out m k) (by omega) ⟨.inl ⟨rfl,rfl⟩,λx=>rfl,by simp,λc hc=>by cases hc⟩ (λk out hk⟨i1,i2,i3,i4⟩=>by
   have hx:m[k]? =some m[k]:=aP hk;have hr:=hmok _<|cL hk
   rw[cC hx,aB];have hts:m.take (k+1)=m.take k++[m[k]]:=eA hk
   rcases i1 with⟨rfl,rfl⟩|⟨A,s,e,rfl,hA,hAs,hAe,hse,j,r,hj,hjr,hsr⟩
   ·rw[show decide (wrap .i64 (((([]:List Int).length:Nat):Int) - 1)>=0)=false by decide,aQ,aB,aQ,lf (by simp),aB,aB];refine⟨_,rfl, .inr ⟨[],_,_,rfl,kH,λc hc=>by simp at hc,rfl,hr.x,0,m[0],by omega,hx,rfl⟩,λx=>?_,by simp,λc hc=>⟨m[0],cL hk,by simpa using hc⟩⟩;rw[hts,Bi,<-i2 x];exact De (l:=[]) (λc hc=>by simp at hc) rfl hr.x x
   ·have hlen:(A++[s,e]).length=A.length+2:=by simp
    have hwp:wrap .i64 ((((A++[s,e]).length:Nat):Int) - 1)=((A.length+1:Nat):Int):=by rw[Di (by omega) (by omega),hlen];rfl
    have hlast:(A++[s,e])[A.length+1]? =some e:=by rw[jC (by omega)];simp
    have hs:s<=m[k].X0:=by
     have:=ov.1 h3 j k (by have:=(bN.1 hjr).1;omega) hk hj;rw[hsr,<-(bN.1 hjr).2];omega
    rw[hwp,bO (by omega),aM,cC hlast,aB,aB]
    by_cases hc:m[k].X0<=e
    ·rw[bO hc,aM,aB,aB,aB,cI];have ox:(A++[s,e]).set (A.length+1) (if e<m[k].X1 then m[k].X1 else e)=A++[s,max e m[k].X1]:=by
      rw[List.set_append_right _ _ (by omega)];have:A.length+1 - A.length=1:=by omega
      rw[this,Int.max_def];simp only[List.set_cons_succ,List.set_cons_zero];congr 2;split <;> split <;> simp <;> omega
     rw[ox]
     refine⟨_,rfl, .inr ⟨A,s,_,rfl,hA,hAs,hAe,by omega,j,r,by omega,hjr,hsr⟩,λx=>?_,by simp at i3 ⊢;omega,λc hc=>by
      rcases dD.1 hc with h|h
      ·exact i4 c<|List.mem_append_left _ h
      ·simp at h
       rcases h with h|h
       ·exact i4 c (by simp[h])
       ·rw[Int.max_def]at h;split at h
        ·exact⟨_,cL hk, .inr h⟩
        ·exact i4 c (by simp[h])⟩
     rw[hts,Bi,<-i2 x];exact Ly hAs hAe hse hs hc hr.x x
    ·rw[bQ hc,aQ,lf (by rw[hlen];simp;omega),aB,aB];have hall:∀c∈A++[s,e],c<m[k].X0:=λc hc'=>by
      rcases dD.1 hc' with h|h
      ·have:=hAs c h;omega
      ·simp at h;omega
     refine⟨_,rfl, .inr ⟨A++[s,e],_,_,rfl,hA.snoc hAs hse,hall,by rw[hlen];omega,hr.x,k,m[k],by omega,hx,rfl⟩,λx=>?_,by simp at i3 ⊢;omega,λc hc=>by
      rcases dD.1 hc with h|h
      ·exact i4 c h
      ·exact⟨m[k],cL hk,by simpa using h⟩⟩
     rw[hts,Bi,<-i2 x]
     exact De hall (by rw[hlen];omega) hr.x x)
 rw[a1,aB];refine⟨out,m,rfl,h2,?_,?_,λx=>?_,by rw[<-hml];exact a2.len,λc hc=>by obtain⟨r,hr,h⟩:=a2.mem c hc;exact⟨r,h2.subset hr,h⟩⟩
 ·rcases a2.row with⟨_,h⟩|⟨A,s,e,rfl,hA,hAs,hAe,hse,_⟩
  ·rw[h];exact kH
  ·exact hA.snoc hAs hse
 ·rcases a2.row with⟨_,h⟩|⟨A,s,e,rfl,hA,hAs,hAe,hse,_⟩
  ·rw[h];rfl
  ·simp;omega
 ·rw[a2.qJ x,fG,gS,Dh,Dh];constructor
  ·rintro⟨r,hr,h⟩;exact⟨r,h2.subset hr,h⟩
  ·rintro⟨r,hr,h⟩;exact⟨r,h2.symm.subset hr,h⟩
theorem Kj{l m:List Int}(hl:l.length<=4611686018427387904):oA N l m=some (decide<|l=m):=EP hl
theorem Jx{s:List aA}{b:aA}(hs:s.length<=1048576000)(hx:∀c∈s,c.Xs.length<=1048576000):∃s',j8 N s b=some s'/\s'.map cG=ko (s.map cG) (cG b):=by
 unfold j8 ko
 by_cases h0:b.Xs= []\/b.Y1<=b.Y0
 ·have e:((((b.Xs.length:Nat):Int)==0)||decide (b.Y1<=b.Y0))=true:=by
   rw[gR]
   rcases h0 with h|h
   ·left;rw[h];rfl
   ·right;exact bO h
  rw[e,aM,aG (show(cG b).xs= []\/(cG b).y1<=(cG b).y0 from h0)];exact⟨s,rfl,rfl⟩
 ·have e:((((b.Xs.length:Nat):Int)==0)||decide (b.Y1<=b.Y0))=false:=by
   rw[Bool.or_eq_false_iff];constructor
   ·rw[beq_eq_false_iff_ne];intro h;exact h0<|.inl<|List.eq_nil_of_length_eq_zero (by omega)
   ·exact bQ λh=>h0<|.inr h
  rw[e,aQ,aI (show ¬((cG b).xs= []\/(cG b).y1<=(cG b).y0)from h0)]
  rcases List.eq_nil_or_concat s with rfl|⟨A,c,hA⟩
  ·rw[show decide (wrap .i64 (((([]:List aA).length:Nat):Int) - 1)>=0)=false by decide,aQ,aB,aQ,lf (by simp),aB];exact⟨_,rfl,rfl⟩
  ·rw[List.concat_eq_append]at hA;subst hA;have hlen:(A++[c]).length=A.length+1:=by simp
   have hwp:wrap .i64 ((((A++[c]).length:Nat):Int) - 1)=((A.length:Nat):Int):=by rw[Di (by omega) (by omega),hlen];rfl
   have hlast:(A++[c])[A.length]? =some c:=by simp
   rw[hwp,bO (by omega),aM,cC hlast,aB,aB,Kj (by have:=hx c (by simp);omega),aB,aB,cI,lf (by rw[hlen];simp;omega),aB];have hl2:((A++[c]).map cG).getLast? =some (cG c):=by simp
   have hd2:((A++[c]).map cG).dropLast=A.map cG:=by simp
   rw[hl2,hd2];dsimp only
   by_cases h1:c.Y1=b.Y0/\c.Xs=b.Xs
   ·rw[aG (show(cG c).y1=(cG b).y0/\(cG c).xs=(cG b).xs from h1),show(c.Y1==b.Y0)=true by rw[h1.1];simp,aM,bO h1.2,aB,aM];refine⟨_,rfl,?_⟩;rw[List.set_append_right _ _<|cH _,Nat.sub_self];simp[cG]
   ·rw[aI (show ¬((cG c).y1=(cG b).y0/\(cG c).xs=(cG b).xs)from h1)];have e2:(bif c.Y1==b.Y0 then some (decide<|c.Xs=b.Xs)else some false)=some false:=by
     by_cases h2:c.Y1=b.Y0
     ·rw[show(c.Y1==b.Y0)=true by rw[h2];simp,aM,bQ<|λh=>h1 ⟨h2,h⟩]
     ·rw[show(c.Y1==b.Y0)=false by simpa using h2,aQ]
    rw[e2,aB,aQ];exact⟨_,rfl,by simp⟩
end
def dO(l:List (Int×Int)):List Int:=l.flatMap λs=>[s.1,s.2]
def j5(l:List (Int×Int))(x:Int):Bool:=l.any λs=>decide (s.1<=x)&&decide (x<s.2)
theorem kB(s:Int×Int)(l:List (Int×Int)):dO (s::l)=s.1::s.2::dO l:=rfl
theorem we(l m:List (Int×Int)):dO (l++m)=dO l++dO m:=List.flatMap_append
theorem kU(l:List (Int×Int)):(dO l).length=2*l.length:=by
 induction l with
 |nil=>rfl
 |cons s l ih=>rw[kB,fq,fq,fq,ih];omega
theorem EU(s:Int×Int)(l:List (Int×Int))(x:Int):j5 (s::l) x=((decide (s.1<=x)&&decide (x<s.2))||j5 l x):=rfl
theorem BV(l m:List (Int×Int))(x:Int):j5 (l++m) x=(j5 l x||j5 m x):=List.any_append
theorem vk{l:List (Int×Int)}{x:Int}:j5 l x=true↔∃s∈l,s.1<=x/\x<s.2:=by
 unfold j5;simp
theorem Kk{a b:Int}{m:List Int}(h:j7 (a::b::m))(x:Int):qJ (a::b::m) x=((decide (a<=x)&&decide (x<b))||qJ m x):=by
 have hab:a<b:=h.head b (by simp);have hm:=h.tail.head;rw[gS,gR,cO,cP,cP,As,As,pq,pq]
 by_cases h1:a<=x
 ·rw[aG h1]
  by_cases h2:b<=x
  ·rw[aG h2];omega
  ·rw[aI h2,Dc (λc hc=>by have:=hm c hc;omega)];omega
 ·rw[aI h1,aI (by omega)];omega
theorem vl:∀{l:List (Int×Int)},j7 (dO l)->∀x,qJ (dO l) x=j5 l x
 | [],_,x=>rfl
 |s::l,h,x=>by
  rw[kB]at h ⊢;rw[Kk h,EU,vl h.tail.tail]
theorem EV:∀{l m:List (Int×Int)},dO l=dO m->l=m
 | [],[],_=>rfl
 | [],s::m,h=>by cases h
 |s::l,[],h=>by cases h
 |(a,b)::l,(c,d)::m,h=>by
  rw[kB,kB]at h;injection h with h1 h2
  injection h2 with h2 h3
  simp only at h1 h2;rw[h1,h2,EV h3]
theorem Bj{l:List (Int×Int)}{c:Int}(h:c∈dO l):∃s∈l,c=s.1\/c=s.2:=by
 obtain⟨s,hs,hc⟩:=List.mem_flatMap.1 h;exact⟨s,hs,by simpa using hc⟩
theorem xE{l:List (Int×Int)}(h:j7 (dO l)):∀s∈l,s.1<s.2:=by
 induction l with
 |nil=>intro s hs;cases hs
 |cons a l ih=>
  rw[kB]at h;intro s hs
  rcases eF.1 hs with rfl|hs
  ·exact h.head _ (by simp)
  ·exact ih h.tail.tail s hs
theorem vm{l m:List (Int×Int)}:j7 (dO<|l++m)↔j7 (dO l)/\j7 (dO m)/\∀s∈l,∀t∈m,s.2<t.1:=by
 rw[we];unfold j7;rw[List.pairwise_append];constructor
 ·rintro⟨h1,h2,h3⟩;exact⟨h1,h2,λs hs t ht=>h3 s.2 (List.mem_flatMap.2 ⟨s,hs,by simp⟩) t.1<|List.mem_flatMap.2 ⟨t,ht,by simp⟩⟩
 ·rintro⟨h1,h2,h3⟩;refine⟨h1,h2,λa ha b hb=>?_⟩;obtain⟨s,hs,ha⟩:=Bj ha;obtain⟨t,ht,hb⟩:=Bj hb;have h4:=h3 s hs t ht;have h5:=xE (l:=l) h1 s hs;have h6:=xE (l:=m) h2 t ht
  rcases ha with rfl|rfl <;> rcases hb with rfl|rfl <;> omega
def lB(s:Int×Int):List (Int×Int)->(Int×Int)×List (Int×Int)
 | []=>(s,[])
 |a::l=>if a.1<=s.2 then lB (min s.1 a.1,max s.2 a.2) l else(s,a::l)
def mH(l:List (Int×Int))(s:Int×Int):List (Int×Int):=
 l.takeWhile (λa=>decide<|a.2<s.1)++(lB s<|l.dropWhile λa=>decide<|a.2<s.1).1::(lB s<|l.dropWhile λa=>decide<|a.2<s.1).2
theorem BW:∀(l:List (Int×Int))(s:Int×Int),s.1<s.2->j7 (dO l)->(∀a∈l,s.1<=a.2)->
  (lB s l).1.1<(lB s l).1.2/\((lB s l).1.1=s.1\/∃a∈l,(lB s l).1.1=a.1)/\j7 (dO (lB s l).2)/\(∀t∈(lB s l).2,(lB s l).1.2<t.1)/\
  ∀x,j5 ((lB s l).1::(lB s l).2) x=((decide (s.1<=x)&&decide (x<s.2))||j5 l x)
 | [],s,h,_,_=>⟨h, .inl rfl,kH,λt(ht:t∈([]:List (Int×Int)))=>(by cases ht),λx=>rfl⟩
 |a::l,s,h,hi,hs=>by
  have hsp:=xE hi;have ha:=hsp a (by simp);have hi':=hi;rw[kB]at hi';have hsa:=hs a (by simp);unfold lB
  by_cases hc:a.1<=s.2
  ·rw[aG hc];have hlt:(min s.1 a.1,max s.2 a.2).1<(min s.1 a.1,max s.2 a.2).2:=by dsimp only;omega
   obtain⟨h1,h2,h3,h4,h5⟩:=BW l (min s.1 a.1,max s.2 a.2) hlt hi'.tail.tail (λb hb=>by
    have:=(vm (l:=[a]) (m:=l)).1 hi;have h6:=this.2.2 a (by simp) b hb;have h7:=hsp b<|kg _ hb
    dsimp only;omega)
   refine⟨h1,?_,h3,h4,λx=>?_⟩
   ·rcases h2 with h2|⟨b,hb,h2⟩
    ·rw[h2]
     rcases Int.le_total s.1 a.1 with h6|h6
     ·exact .inl (by simp only;omega)
     ·exact .inr ⟨a,by simp,by simp only;omega⟩
    ·exact .inr ⟨b,kg _ hb,h2⟩
   ·rw[h5,EU,<-Bool.or_assoc];congr 1;clear h1 h2 h3 h4 h5;rw[gS];simp only[gR,cO,cP];constructor
    ·intro h6
     by_cases h7:s.1<=x/\x<s.2
     ·exact .inl h7
     ·exact .inr (by omega)
    ·rintro(h6|h6) <;> omega
  ·rw[aI hc];refine⟨h, .inl rfl,hi,λt ht=>?_,λx=>rfl⟩;show s.2<t.1
   rcases eF.1 ht with rfl|ht
   ·omega
   ·have:=((vm (l:=[a]) (m:=l)).1 hi).2.2 a (by simp) t ht;omega
theorem FN{l:List (Int×Int)}{c:Int}(h:j7 (dO l)):∀a∈l.dropWhile (λa=>decide<|a.2<c),c<=a.2:=by
 induction l with
 |nil=>intro a ha;cases ha
 |cons b l ih=>
  have h':=h;rw[kB]at h';rw[List.dropWhile_cons]
  by_cases hb:b.2<c
  ·rw[aG (by simpa using hb)];exact ih h'.tail.tail
  ·rw[aI (by simpa using hb)];intro a ha
   rcases eF.1 ha with rfl|ha
   ·omega
   ·have h1:=((vm (l:=[b]) (m:=l)).1 h).2.2 b (by simp) a ha;have h2:=xE h a<|kg _ ha
    omega
theorem FO(l:List (Int×Int))(c:Int):∀a∈l.takeWhile (λa=>decide<|a.2<c),a.2<c:=by
 induction l with
 |nil=>intro a ha;cases ha
 |cons b l ih=>
  rw[List.takeWhile_cons]
  by_cases hb:b.2<c
  ·rw[aG (by simpa using hb)];intro a ha
   rcases eF.1 ha with rfl|ha
   ·exact hb
   ·exact ih a ha
  ·rw[aI (by simpa using hb)];intro a ha;cases ha
theorem Aw{l:List (Int×Int)}{s:Int×Int}(h:j7 (dO l))(hs:s.1<s.2):
  j7 (dO<|mH l s)/\∀x,j5 (mH l s) x=((decide (s.1<=x)&&decide (x<s.2))||j5 l x):=by
 have hsplit:=h;rw[<-List.takeWhile_append_dropWhile (p:=λa:Int×Int=>decide<|a.2<s.1) (l:=l),vm]at hsplit;obtain⟨h1,h2,h3⟩:=hsplit;obtain⟨m1,m2,m3,m4,m5⟩:=BW (l.dropWhile λa=>decide<|a.2<s.1) s hs h2<|FN h
 unfold mH;refine⟨vm.2 ⟨h1,?_,λa ha t ht=>?_⟩,λx=>?_⟩
 ·rw[kB];have h4:∀c∈dO (lB s<|l.dropWhile λa=>decide<|a.2<s.1).2,(lB s<|l.dropWhile λa=>decide<|a.2<s.1).1.2<c:=λc hc=>by
   obtain⟨t,ht,hc⟩:=Bj hc;have:=m4 t ht;have:=xE m3 t ht
   rcases hc with rfl|rfl <;> omega
  exact pz.2 ⟨λc hc=>by
   rcases eF.1 hc with rfl|hc
   ·exact m1
   ·have:=h4 c hc;omega,pz.2 ⟨h4,m3⟩⟩
 ·have ha1:=FO l s.1 a ha
  rcases eF.1 ht with rfl|ht
  ·rcases m2 with m2|⟨b,hb,m2⟩
   ·rw[m2];exact ha1
   ·rw[m2];exact h3 a ha b hb
  ·have h5:=m4 t ht
   rcases m2 with m2|⟨b,hb,m2⟩
   ·rw[m2]at m1;omega
   ·have:=h3 a ha b hb;rw[m2]at m1;omega
 ·rw[BV,m5]
  conv=>rhs;rw[<-List.takeWhile_append_dropWhile (p:=λa:Int×Int=>decide<|a.2<s.1) (l:=l),BV]
  rw[Bool.or_left_comm]
def lC:List Int->List (Int×Int)
 |a::b::l=>(a,b)::lC (b::l)
 |_=>[]
theorem sX:∀{xs:List Int},j7 xs->∀s∈lC xs,s.1∈xs/\s.2∈xs/\s.1<s.2/\∀c∈xs,c<=s.1\/s.2<=c
 | [],_,s,hs=>by cases hs
 | [a],_,s,hs=>by cases hs
 |a::b::l,h,s,hs=>by
  have hab:=h.head b (by simp)
  rcases eF.1 hs with rfl|hs
  ·refine⟨by simp,by simp,hab,λc hc=>?_⟩
   rcases eF.1 hc with rfl|hc
   ·exact .inl<|Int.le_refl _
   ·rcases eF.1 hc with rfl|hc
    ·exact .inr<|Int.le_refl _
    ·exact .inr (by have:=h.tail.head c hc;show b<=c;omega)
  ·obtain⟨h1,h2,h3,h4⟩:=sX h.tail s hs;refine⟨kg _ h1,kg _ h2,h3,λc hc=>?_⟩
   rcases eF.1 hc with rfl|hc
   ·exact .inl (by have:=h.head s.1 h1;omega)
   ·exact h4 c hc
theorem zq:∀{xs:List Int},j7 xs->∀x,(∃s∈lC xs,s.1<=x/\x<s.2)\/(∀c∈xs,x<c)\/(∀c∈xs,c<=x)
 | [],_,x=> .inr (.inl λc hc=>by cases hc)
 | [a],_,x=>by
  by_cases h:x<a
  ·exact .inr (.inl λc hc=>by simp at hc;omega)
  ·exact .inr (.inr λc hc=>by simp at hc;omega)
 |a::b::l,h,x=>by
  have hab:=h.head b (by simp)
  rcases zq h.tail x with⟨s,hs,h1⟩|h1|h1
  ·exact .inl ⟨s,kg _ hs,h1⟩
  ·by_cases h2:x<a
   ·exact .inr (.inl λc hc=>by
     rcases eF.1 hc with rfl|hc
     ·exact h2
     ·exact h1 c hc)
   ·exact .inl ⟨(a,b),by simp[lC],by show a<=x;omega,h1 b (by simp)⟩
  ·exact .inr (.inr λc hc=>by
    rcases eF.1 hc with rfl|hc
    ·have:=h1 b (by simp);omega
    ·exact h1 c hc)
def Ends(a:List (Int×Int))(xs:List Int):Prop:=∀s∈a,s.1∈xs/\s.2∈xs
theorem CA{a:List (Int×Int)}{xs:List Int}(he:Ends a xs)(hx:j7 xs){s:Int×Int}(hs:s∈lC xs){x:Int}(h1:s.1<=x)(h2:x<s.2):j5 a x=j5 a s.1:=by
 obtain⟨_,_,h3,h4⟩:=sX hx s hs;rw[gS,vk,vk];constructor
 ·rintro⟨t,ht,h5,h6⟩;have:=h4 _ (he t ht).1;exact⟨t,ht,by omega,by omega⟩
 ·rintro⟨t,ht,h5,h6⟩;have:=h4 _ (he t ht).2;exact⟨t,ht,by omega,by omega⟩
theorem Jy{a:List (Int×Int)}{xs:List Int}(he:Ends a xs){x:Int}(h:(∀c∈xs,x<c)\/(∀c∈xs,c<=x)):j5 a x=false:=by
 rw[<-l5,vk];rintro⟨t,ht,h5,h6⟩;obtain⟨e1,e2⟩:=he t ht
 rcases h with h|h
 ·have:=h _ e1;omega
 ·have:=h _ e2;omega
def nu(iC:Bool->Bool->Bool)(a b:List (Int×Int))(ss:List (Int×Int))(out:List (Int×Int)):List (Int×Int):=
 ss.foldl (λout s=>if iC (j5 a s.1) (j5 b s.1)=true then mH out s else out) out
theorem xF(iC:Bool->Bool->Bool)(a b:List (Int×Int)):∀(ss out:List (Int×Int)),j7 (dO out)->(∀s∈ss,s.1<s.2)->
  j7 (dO<|nu iC a b ss out)/\∀x,j5 (nu iC a b ss out) x=(j5 out x||ss.any λs=>iC (j5 a s.1) (j5 b s.1)&&(decide (s.1<=x)&&decide (x<s.2)))
 | [],out,h,_=>⟨h,λx=>by simp[nu]⟩
 |s::ss,out,h,hs=>by
  have h0:=hs s (by simp);unfold nu;rw[List.foldl_cons]
  by_cases hk:iC (j5 a s.1) (j5 b s.1)=true
  ·rw[aG hk];obtain⟨j1,j2⟩:=Aw h h0;obtain⟨m1,m2⟩:=xF iC a b ss (mH out s) j1<|λt ht=>hs t<|kg _ ht
   refine⟨m1,λx=>?_⟩;rw[show j5 (List.foldl _ (mH out s) ss) x=_ from m2 x,j2,List.any_cons,hk,Bool.true_and]
   cases j5 out x <;> simp
  ·rw[aI hk];obtain⟨m1,m2⟩:=xF iC a b ss out h<|λt ht=>hs t<|kg _ ht
   refine⟨m1,λx=>?_⟩;rw[show j5 (List.foldl _ out ss) x=_ from m2 x,List.any_cons,eq_false_of_ne_true hk,Bool.false_and,Bool.false_or]
theorem Hh{iC:Bool->Bool->Bool}(hk:iC false false=false){a b:List (Int×Int)}{xs:List Int}(hx:j7 xs)(ha:Ends a xs)(hb:Ends b xs):
  j7 (dO<|nu iC a b (lC xs) [])/\∀x,j5 (nu iC a b (lC xs) []) x=iC (j5 a x) (j5 b x):=by
 obtain⟨m1,m2⟩:=xF iC a b (lC xs) [] kH<|λs hs=>(sX hx s hs).2.2.1
 refine⟨m1,λx=>?_⟩;rw[m2,show j5 [] x=false from rfl,Bool.false_or]
 rcases zq hx x with⟨s,hs,h1,h2⟩|h
 ·rw[gS,kI];constructor
  ·rintro⟨t,ht,h3⟩;rw[cO,cO,cP,cP]at h3;rw[CA ha hx ht h3.2.1 h3.2.2,CA hb hx ht h3.2.1 h3.2.2];exact h3.1
  ·intro h3;rw[CA ha hx hs h1 h2,CA hb hx hs h1 h2]at h3;exact⟨s,hs,by rw[h3,bO h1,bO h2];rfl⟩
 ·rw[Jy ha h,Jy hb h,hk,<-l5,kI];rintro⟨t,ht,h3⟩;rw[cO,cO,cP,cP]at h3;obtain⟨e1,e2,_⟩:=sX hx t ht
  rcases h with h|h
  ·have:=h _ e1;omega
  ·have:=h _ e2;omega
def nv(f:Int->List Int)(ss:List (Int×Int))(out:List Bd):List Bd:=ss.foldl (λout s=>ko out ⟨s.1,s.2,f s.1⟩) out
theorem BX(f:Int->List Int)(hf:∀y,j7 (f y)/\(f y).length % 2=0):∀(ys:List Int)(out:List Bd),j7 ys->fF out->(∀c∈out,∀y∈ys,c.y1<=y)->
  fF (nv f (lC ys) out)/\∀y,rowAt (nv f (lC ys) out) y=match(lC ys).find? (λs=>decide (s.1<=y)&&decide (y<s.2))with|some s=>f s.1|none=>rowAt out y
 | [],out,_,h,_=>⟨h,λy=>rfl⟩
 | [a],out,_,h,_=>⟨h,λy=>rfl⟩
 |a::b::l,out,hi,h,ho=>by
  have hab:=hi.head b (by simp);have ho1:∀c∈out,c.y1<=(⟨a,b,f a⟩:Bd).y0:=λc hc=>ho c hc a (by simp);have hc:=yb (b:=⟨a,b,f a⟩) h ho1 (hf a).1 (hf a).2;have htop:=yc (b:=⟨a,b,f a⟩) ho1 (by show a<=b;omega)
  obtain⟨m1,m2⟩:=BX f hf (b::l) (ko out ⟨a,b,f a⟩) hi.tail hc (λc hc' y hy=>by
   have h1:=htop c hc';have h2:b<=y:=by
    rcases eF.1 hy with rfl|hy
    ·exact Int.le_refl _
    ·have:=hi.tail.head y hy;omega
   have h3:c.y1<=b:=h1
   omega)
  refine⟨m1,λy=>?_⟩;show rowAt (nv f (lC<|b::l)<|ko out ⟨a,b,f a⟩) y=_;rw[m2 y,show lC (a::b::l)=(a,b)::lC (b::l)from rfl,List.find?_cons];have hrow:=ya (s:=out) (b:=⟨a,b,f a⟩) ho1 (λc hc=>(h.each c hc).1) (λh=>absurd h (by show ¬b<=a;omega)) y
  by_cases hy:a<=y/\y<b
  ·have e:(decide (a<=y)&&decide (y<b))=true:=by rw[bO hy.1,bO hy.2];rfl
   have hn:(lC<|b::l).find? (λs=>decide (s.1<=y)&&decide (y<s.2))=none:=by
    rw[List.find?_eq_none];intro s hs;have:=(sX hi.tail s hs).1;have h5:b<=s.1:=by
     rcases eF.1 this with h6|h6
     ·omega
     ·have:=hi.tail.head _ h6;omega
    simp;omega
   rw[hn];show rowAt (ko out ⟨a,b,f a⟩) y=_;rw[hrow,aG hy,e]
  ·have e:(decide (a<=y)&&decide (y<b))=false:=by
    rw[Bool.and_eq_false_iff,decide_eq_false_iff_not,decide_eq_false_iff_not];omega
   rw[e]
   cases(lC<|b::l).find? (λs=>decide (s.1<=y)&&decide (y<s.2))with
   |some s=>rfl
   |none=>
    show rowAt (ko out ⟨a,b,f a⟩) y=rowAt out y;rw[hrow,aI hy]
theorem BZ{f:Int->List Int}(hf:∀y,j7 (f y)/\(f y).length % 2=0){ys:List Int}(hy:j7 ys)(h1:∀s∈lC ys,∀y,s.1<=y->y<s.2->f y=f s.1)(h2:∀y,((∀c∈ys,y<c)\/(∀c∈ys,c<=y))->f y= []):
  fF (nv f (lC ys) [])/\∀y,rowAt (nv f (lC ys) []) y=f y:=by
 obtain⟨m1,m2⟩:=BX f hf ys [] hy fF.nil (λc hc=>by cases hc);refine⟨m1,λy=>?_⟩;rw[m2 y]
 cases OT:(lC ys).find? (λs=>decide (s.1<=y)&&decide (y<s.2))with
 |some s=>
  have h3:=List.find?_some OT;rw[cO,cP,cP]at h3;exact(h1 s (List.mem_of_find?_eq_some OT) y h3.1 h3.2).symm
 |none=>
  show rowAt [] y=f y
  rcases zq hy y with⟨s,hs,h3,h4⟩|h3
  ·have:=List.find?_eq_none.1 OT s hs;rw[bO h3,bO h4]at this;exact absurd rfl this
  ·rw[h2 y h3];rfl
def Ok{β:Type}(o:Option β)(P:β->Prop):Prop:=∃r,o=some r/\P r
section
variable {α β S R:Type}{P:α->Prop}{Q:β->Prop}
theorem SR{x:β}(h:Q x):Ok (some x) Q:=⟨x,rfl,h⟩
theorem VV{o:Option β}{x:β}(h:o=some x)(hq:Q x):Ok o Q:=⟨x,h,hq⟩
theorem Ok.mono{o:Option α}{P':α->Prop}(h:Ok o P)(k:∀x,P x->P' x):Ok o P':=by obtain⟨x,h1,h2⟩:=h;exact⟨x,h1,k x h2⟩
theorem S3{o:Option α}{f:α->Option β}(h:Ok o P)(k:∀x,P x->Ok (f x) Q):Ok (o.bind f) Q:=by
 obtain⟨x,h1,h2⟩:=h;grind
theorem IT{o:Option α}{f:α->Option β}{x:α}(h:o=some x)(k:Ok (f x) Q):Ok (o.bind f) Q:=by grind
theorem Tx{b:Bool}{x y:Option β}(ht:b=true->Ok x Q)(hf:b=false->Ok y Q):Ok (bif b then x else y) Q:=by
 grind
theorem TT{o:Option β}{x:β}(h:Ok o (λr=>r=x)):o=some x:=by obtain⟨r,h1,h2⟩:=h;rw[h1,h2]
def QD(Go:S->Prop)(Rt:R->Prop):Fo S R->Prop| .go s=>Go s| .rt r=>Rt r
def Mf(Nx Br:S->Prop)(Rt:R->Prop):Fl S R->Prop| .nx s=>Nx s| .br s=>Br s| .rt r=>Rt r
theorem Tk{Nx Br:S->Prop}{Rt:R->Prop}{s:S}(h:Nx s):Ok (some<|Fl.nx s) (Mf Nx Br Rt):=⟨_,rfl,h⟩
theorem Tu{Nx Br:S->Prop}{Rt:R->Prop}{s:S}(h:Br s):Ok (some<|Fl.br s) (Mf Nx Br Rt):=⟨_,rfl,h⟩
theorem TW{Nx Br:S->Prop}{Rt:R->Prop}{r:R}(h:Rt r):Ok (some (Fl.rt r:Fl S R)) (Mf Nx Br Rt):=⟨_,rfl,h⟩
theorem Tv{Go:S->Prop}{Rt:R->Prop}{o:Fo S R}{f:S->Option β}{g:R->Option β}(h:QD Go Rt o)(hf:∀s,Go s->Ok (f s) Q)(hg:∀r,Rt r->Ok (g r) Q):Ok (o.cs f g) Q:=by
 cases o with
 |go s=>exact hf s h
 |rt r=>exact hg r h
theorem T0{body:Nat->S->Option S}{m:Nat}{s:S}(Inv:Nat->S->Prop)(hm:m<=4611686018427387904)(h0:Inv 0 s)(h:∀k s,k<m->Inv k s->Ok (body k s) (Inv<|k+1)):Ok (mx m body s) (Inv m):=
 Cz Inv hm h0 h
theorem Vd{body:Nat->S->Option (Fl S R)}{m:Nat}{s:S}(Inv:Nat->S->Prop){Go:S->Prop}{Rt:R->Prop}(hm:m<=4611686018427387904)(h0:Inv 0 s)
  (h:∀k s,k<m->Inv k s->Ok (body k s) (Mf (Inv<|k+1) Go Rt)) (hg:∀s,Inv m s->Go s):Ok (tL m body s) (QD Go Rt):=by
 obtain⟨o,h1,h2⟩:=MH (R:=R) Inv Go Rt hm h0 (λk s hk hi=>by
  obtain⟨fl,a1,a2⟩:=h k s hk hi
  exact⟨fl,a1,by cases fl <;> exact a2⟩) hg
 exact⟨o,h1,by cases o <;> exact h2⟩
theorem T4{body:S->Option (Fl S R)}{N:Nat}{s:S}(Inv:S->Prop)(μ:S->Nat){Go:S->Prop}{Rt:R->Prop}
  (h:∀s,Inv s->Ok (body s) (Mf (λs'=>Inv s'/\μ s'<μ s) Go Rt)) (hi:Inv s) (hn:μ s<N):Ok (jg body N s) (QD Go Rt):=by
 obtain⟨o,h1,h2⟩:=Ag (R:=R) Inv μ Go Rt (λs hi=>by
  obtain⟨fl,a1,a2⟩:=h s hi
  exact⟨fl,a1,by cases fl <;> exact a2⟩) N s hi hn
 exact⟨o,h1,by cases o <;> exact h2⟩
theorem TM{b:Nat}{l ys:List α}{f:List α->Option β}(h:(l.length+ys.length)*b<=140737488355328)(k:Ok (f<|l++ys) Q):Ok ((Go.Gk.app b l ys).bind f) Q:=by grind [lf]
theorem TU{l:List α}{i:Nat}{f:α->Option β}(h:i<l.length)(k:Ok (f l[i]) Q):Ok ((Go.Gk.idx l ((i:Nat):Int)).bind f) Q:=by grind [l6]
theorem Tc{l:List α}{i:Nat}{x:α}{f:α->Option β}(h:l[i]? =some x)(k:Ok (f x) Q):Ok ((Go.Gk.idx l ((i:Nat):Int)).bind f) Q:=by grind [cC]
end
theorem Hi{n:Nat}(h:n<=4611686018427387904):wrap .i64 ((n:Nat):Int)=((n:Nat):Int):=by grind [fP]
theorem wrap_add{n m:Nat}(h:n+m<=4611686018427387904):wrap .i64 (((n:Nat):Int)+((m:Nat):Int))=((n+m:Nat):Int):=by grind [fP]
theorem bI{n:Nat}(h:n+1<=4611686018427387904):wrap .i64 (((n:Nat):Int)+1)=((n+1:Nat):Int):=by grind [fP]
theorem EW{n:Nat}(h:n+2<=4611686018427387904):wrap .i64 (((n:Nat):Int)+2)=((n+2:Nat):Int):=by grind [fP]
theorem gu{α:Type}[DecidableEq α]:∀{l m:List α},l.Nodup->(∀x∈l,x∈m)->l.length<=m.length
 | [],m,_,_=>cT _
 |a::l,m,hn,hs=>by
  have ha:a∈m:=hs a (by simp);have hn':=List.nodup_cons.1 hn
  have:=gu (l:=l) (m:=m.erase a) hn'.2 (λx hx=>by
   grind)
  rw[List.length_erase_of_mem ha]at this;have:=List.length_pos_of_mem ha;simp;omega
section
variable {α:Type}{N:Nat}
def QE(z:α)(N:Nat)(p0:List α)(p1:α->Option Bool):Option (List α):=
 (vV p0 p1).bind λx31=>bif x31==(-1)then some p0 else((jg (λ(s33:List α×Int×Int)=>(bif decide (s33.2.2<(s33.1.length:Int))then((idx s33.1 s33.2.2).bind λx54=>(p1 x54).bind λx58=>(bif(!x58)then((idx s33.1 s33.2.1).bind λx63=>some (s33.1.set (Int.toNat s33.2.1) x54,wrap .i64<|s33.2.1+1))else some (s33.1,s33.2.1)).bind λs61=>some<|.nx (s61.1,s61.2,wrap .i64<|s33.2.2+1))else(some<|.br (s33.1,s33.2.1,s33.2.2)):Option (Fl (List α×Int×Int) Empty))) N (p0,x31,wrap .i64<|x31+1)).bind λo67=>o67.cs (λ(s33:List α×Int×Int)=>(uj s33.1 s33.2.1 (s33.1.length:Int)).bind λx64=>(uj (s33.1.take (Int.toNat s33.2.1)++List.replicate (s33.1.length - Int.toNat s33.2.1) z) 0 s33.2.1).bind λx65=>some x65)<|λr=>r.elim)
theorem Lz{z:α}{l:List α}{φ:α->Option Bool}(p:α->Bool)(hφ:∀x∈l,φ x=some (p x))(hl:l.length<=4611686018427387000)(hN:l.length<N):QE z N l φ=some (l.filter<|λx=> !p x):=by
 unfold QE;rw[uv p (by omega) hφ,aB]
 rcases x8 l p with⟨h1,h2⟩|⟨k,x,h1,h2,h3,h4⟩
 ·grind [List.filter_eq_self]
 ·rw[h1,show(((k:Nat):Int)== -1)=false by simp,aQ];have hk:=(bN.1 h2).1;have hpre:(l.take k).filter (λx=> !p x)=l.take k:=List.filter_eq_self.2 λa ha=>by
   grind [dW,bN,dI,List.getElem?_take_of_lt]
  have hst:l.take (k+1)=l.take k++[x]:=by
   rw[eA hk];grind
  have hk1:wrap .i64 (((k:Nat):Int)+1)=((k+1:Nat):Int):=by grind [fP]
  rw[hk1];obtain⟨o,a1,a2⟩:=Ag (S:=List α×Int×Int) (R:=Empty) (body:=λ(s33:List α×Int×Int)=>(bif decide (s33.2.2<(s33.1.length:Int))then((idx s33.1 s33.2.2).bind λx54=>(φ x54).bind λx58=>(bif(!x58)then((idx s33.1 s33.2.1).bind λx63=>some (s33.1.set (Int.toNat s33.2.1) x54,wrap .i64<|s33.2.1+1))else some (s33.1,s33.2.1)).bind λs61=>some<|.nx (s61.1,s61.2,wrap .i64<|s33.2.2+1))else(some<|.br (s33.1,s33.2.1,s33.2.2)):Option (Fl (List α×Int×Int) Empty)))
   (λs=>∃i j:Nat,s.2.1=((i:Nat):Int)/\s.2.2=((j:Nat):Int)/\i<j/\j<=l.length/\s.1.length=l.length/\s.1.take i=(l.take j).filter (λx=> !p x)/\∀m,j<=m->s.1[m]? =l[m]?)
   (λs=>l.length - s.2.2.toNat) (λs=>∃i:Nat,s.2.1=((i:Nat):Int)/\i<=l.length/\s.1.length=l.length/\s.1.take i=l.filter (λx=> !p x)) (λ_=>True) (λs⟨i,j,e1,e2,hij,hj,hlen,ht,hd⟩=>by
    obtain⟨s,a,b⟩:=s;dsimp only at e1 e2 hlen ht hd ⊢;subst e1;subst e2
    by_cases hlt:j<l.length
    ·rw[bO (by omega),aM];have hx:s[j]? =some l[j]:=by grind
     have w1:wrap .i64 (((j:Nat):Int)+1)=((j+1:Nat):Int):=by grind [fP]
     have w2:wrap .i64 (((i:Nat):Int)+1)=((i+1:Nat):Int):=by grind [fP]
     have hs2:l.take (j+1)=l.take j++[l[j]]:=eA hlt;rw[cC hx,aB,hφ _<|cL hlt,aB,w1]
     cases hp:p l[j]with
     |true=>
      refine⟨.nx (s,((i:Nat):Int),((j+1:Nat):Int)),by rfl,⟨i,j+1,rfl,rfl,by omega,by omega,hlen,?_,λm hm=>hd m (by omega)⟩,?_⟩
      ·grind
      grind
     |false=>
      refine⟨.nx (s.set i l[j],((i+1:Nat):Int),((j+1:Nat):Int)),by rw[jG,aM,l6 _ _ (by omega),aB,cI,w2,aB],⟨i+1,j+1,rfl,rfl,by omega,by omega,by simp[hlen],?_,λm hm=>?_⟩,?_⟩
      ·rw[hs2,List.filter_append,<-ht];have:(s.set i l[j]).take (i+1)=s.take i++[l[j]]:=by
        rw[eA (by simp;omega),List.take_set_of_le<|cH _];simp
       rw[this];simp[hp]
      ·rw[ln,aI (by omega)];exact hd m (by omega)
      ·simp only[cI];omega
    ·rw[bQ (by rw[hlen];omega),aQ];have hje:j=l.length:=by omega
     subst hje;rw[fG]at ht
     exact⟨.br (s,((i:Nat):Int),((l.length:Nat):Int)),rfl,i,rfl,by omega,hlen,ht⟩)
   N (l,((k:Nat):Int),((k+1:Nat):Int)) ⟨k,k+1,rfl,rfl,by omega,by omega,rfl,by rw[hst,List.filter_append,hpre];simp[h3],λ_ _=>rfl⟩ (by simp only[cI];omega)
  rw[a1,aB]
  cases o with
  |rt r=>exact r.elim
  |go s=>
   obtain⟨i,e1,hi,hlen,ht⟩:=a2;obtain⟨s,a,b⟩:=s;dsimp only at e1 hlen ht;subst e1;simp only[Fo.cs];rw[rB _ _ (by omega),aB,cI,tj _ _ (by simp;omega),aB,List.take_append_of_le_length (by simp;omega),List.take_take,Nat.min_self,ht]
end
section
variable {κ ν:Type}[DecidableEq κ]
theorem lI(m:List (κ×ν))(k k':κ)(x z:ν):fB (rp m k x) k' z=if k'=k then x else fB m k' z:=by
 induction m with
 |nil=>grind [rp,fB]
 |cons p m ih=>
  grind [rp,fB,bQ,bO]
theorem oN(m:List (κ×ν))(k k':κ)(x:ν):lV (rp m k x) k'=(decide (k'=k)||lV m k'):=by
 induction m with
 |nil=>rfl
 |cons p m ih=>
  unfold rp
  grind [lV,bQ,decide]
end
section
variable {N:Nat}
theorem Dj(l:List Int)(a b:Nat)(h:a+b<l.length):Ig l ((a:Nat):Int) ((b:Nat):Int)=some l[a+b]:=by
 unfold Ig;rw[aG (by omega),show((a:Nat):Int)+((b:Nat):Int)=((a+b:Nat):Int)by omega,l6 _ _ h]
theorem j7.LA{l:List Int}{a:Int}(h:j7 l)(hl:∀c∈l,c<a):j7 (l++[a]):=by
 grind [j7]
theorem j7.last{l:List Int}{a:Int}(h:j7 l)(hl:l.getLast? =some a):∀c∈l,c<=a:=by
 intro c hc;have hs:=tz hl;rw[hs]at h hc
 rcases dD.1 hc with h1|h1
 ·have:=(List.pairwise_append.1 h).2.2 c h1 a (by simp);omega
 grind
theorem FP{l:List Int}(hs:l.Pairwise (λx y=>x<=y))(hl:l.length<=4611686018427387000)(hN:l.length<N):
  Ok (iR N l) (λm=>j7 m/\∀c,c∈m↔c∈l):=by
 unfold iR;refine Tx (λh2=>SR ⟨?_,λc=>Iff.rfl⟩)<|λh2=>?_
 ·have h2:=of_decide_eq_true h2
  match l,h2 with
  | [],_=>exact kH
  | [a],_=>exact List.pairwise_singleton _ _
  |a::b::l,h2=>grind
 ·have h2:=of_decide_eq_false h2;have le:∀(i j:Nat)(x y:Int),i<j->l[i]? =some x->l[j]? =some y->x<=y:=λi j x y hij hx hy=>by
   grind [ov,bN]
  refine S3 (T4 (Go:=λ_=>j7 l) (Rt:=λm=>j7 m/\∀c,c∈m↔c∈l) (λs=>∃k:Nat,s=((k:Nat):Int)/\1<=k/\k<=l.length/\j7 (l.take k)) (λs=>l.length - s.toNat) ?_ ⟨1,rfl,cH _,by omega,?_⟩ (by simp;omega)) ?_
  ·rintro s⟨k,rfl,hk1,hkl,hinc⟩;refine Tx (λh=>?_)<|λh=>Tu ?_
   ·have hk:k<l.length:=by grind
    refine TU hk ?_;rw[ja hk1 (by omega)];refine TU (by omega) ?_;refine Tx (λhe=>?_)<|λhe=>?_
    ·have he:l[k]=l[k - 1]:=by grind
     refine IT (rB l k hkl) ?_
     refine S3 (T4 (Go:=λs=>∃i:Nat,s.2.1=((i:Nat):Int)/\i<=l.length/\s.1.length=l.length/\j7 (s.1.take i)/\∀c,c∈s.1.take i↔c∈l) (Rt:=λ_=>True)
      (λs=>∃i j:Nat,s.2.1=((i:Nat):Int)/\s.2.2=((j:Nat):Int)/\1<=j/\k+j<=l.length/\i<=k+j - 1/\s.1.length=l.length/\j7 (s.1.take i)/\(s.1.take i).getLast? =l[k+j - 1]? /\
       (∀c,c∈s.1.take i↔c∈l.take (k+j))/\∀m,k+j - 1<=m->s.1[m]? =l[m]?) (λs=>l.length - s.2.2.toNat) ?_ ?_ (by simp;omega)) ?_
     ·rintro⟨u,a,b⟩⟨i,j,e1,e2,hj,hjl,hij,hlen,hi,hlast,hmem,hrest⟩;dsimp only at e1 e2 hlen hi hlast hmem hrest ⊢;subst e1;subst e2;rw[cI];refine Tx (λh=>?_)<|λh=>Tu ?_
      ·have hlt:k+j<l.length:=by have:=of_decide_eq_true h;omega
       have hx:u[k+j]'(by omega)=l[k+j]:=by have:=hrest (k+j) (by omega);rw[aP (by omega),aP hlt]at this;injection this
       have hy:u[k+(j - 1)]'(by omega)=l[k+(j - 1)]:=by have:=hrest (k+(j - 1)) (by omega);rw[aP (by omega),aP (by omega)]at this;injection this
       refine IT (Dj u k j (by omega)) ?_;rw[ja hj (by omega)];refine IT (Dj u k (j - 1) (by omega)) ?_;rw[hx,hy];have hts:l.take (k+j+1)=l.take (k+j)++[l[k+j]]:=eA hlt;have hlast':(u.take i).getLast? =some l[k+(j - 1)]:=by rw[hlast,show k+j - 1=k+(j - 1)by omega,aP (by omega)]
       have hxy:l[k+(j - 1)]<=l[k+j]:=le (k+(j - 1)) (k+j) _ _ (by omega) (aP _)<|aP _
       refine S3 (P:=λs'=>s'.1.length=l.length/\∃i':Nat,s'.2=((i':Nat):Int)/\i'<=k+j/\j7 (s'.1.take i')/\(s'.1.take i').getLast? =l[k+j]? /\(∀c,c∈s'.1.take i'↔c∈l.take (k+j+1))/\∀m,k+j<=m->s'.1[m]? =l[m]?) ?_ ?_
       ·refine Tx (λhne=>?_)<|λhne=>SR ?_
        ·have hne:l[k+j]≠l[k+(j - 1)]:=by simpa using hne
         refine IT (Dj u k j (by omega)) ?_;rw[hx];refine TU (by omega)<|SR ⟨by simp[hlen],i+1,?_,by omega,?_⟩
         ·rw[bI (by omega)]
         ·dsimp only;rw[cI];have ht:(u.set i l[k+j]).take (i+1)=u.take i++[l[k+j]]:=by
           rw[eA (by simp;omega),List.take_set_of_le<|cH _];simp
          rw[ht];refine⟨hi.LA λc hc=>?_,by simp[aP hlt],λc=>?_,λm hm=>?_⟩
          ·have:=hi.last hlast' c hc;omega
          ·rw[hts,dD,dD,hmem]
          ·rw[ln,aI (by omega)];exact hrest m (by omega)
        ·have he:l[k+j]=l[k+(j - 1)]:=by simpa using hne
         refine⟨hlen,i,rfl,by omega,hi,?_,λc=>?_,λm hm=>hrest m (by omega)⟩
         ·dsimp only;rw[hlast',aP hlt,he]
         ·rw[hts,dD,<-hmem];constructor
          ·exact .inl
          ·rintro(h|h)
           ·exact h
           ·simp at h;subst h;rw[he];exact List.mem_of_getLast? hlast'
       ·rintro⟨v,a⟩⟨g1,i',g2,g3,g4,g5,g6,g7⟩;dsimp only at g1 g2 g4 g5 g6 g7 ⊢;refine Tk ⟨⟨i',j+1,g2,?_,by omega,by omega,by omega,g1,g4,?_,g6,λm hm=>g7 m (by omega)⟩,?_⟩
        ·rw[bI (by omega)]
        ·rw[show k+(j+1) - 1=k+j by omega];exact g5
        ·rw[bI (by omega)];simp only[cI];omega
      ·have hge:k+j=l.length:=by have:=of_decide_eq_false h;omega
       refine⟨i,rfl,by omega,hlen,hi,λc=>?_⟩;rw[hmem,hge,fG]
     ·refine⟨k,1,rfl,rfl,cH _,by omega,by omega,rfl,hinc,?_,λc=>?_,λm _=>rfl⟩
      ·dsimp only;rw[show k+1 - 1=k by omega,aP hk,he,List.getLast?_eq_getElem?,dI,Nat.min_eq_left hkl,List.getElem?_take_of_lt (by omega),aP (by omega)]
      ·dsimp only;rw[eA hk,dD];constructor
       ·exact .inl
       ·rintro(h|h)
        ·exact h
        ·simp at h;subst h;rw[he];refine fQ (i:=k - 1) ?_;rw[List.getElem?_take_of_lt (by omega),aP (by omega)]
     ·rintro o ho;refine Tv ho ?_<|λr=>r.elim
      rintro⟨u,a,b⟩⟨i,e1,hi,hlen,hinc',hmem⟩;dsimp only at e1 hlen hinc' hmem ⊢;subst e1;refine IT (rB u i (by omega)) ?_;rw[cI];refine IT (tj _ i (by simp;omega))<|TW ?_
      rw[List.take_append_of_le_length (by simp;omega),List.take_take,Nat.min_self];exact⟨hinc',hmem⟩
    ·have he:l[k]≠l[k - 1]:=by simpa using he
     refine Tk ⟨⟨k+1,by rw[bI (by omega)],by omega,by omega,?_⟩,by rw[bI (by omega)];simp only[cI];omega⟩;rw[eA hk];refine hinc.LA λc hc=>?_;have hlast:(l.take k).getLast? =some l[k - 1]:=by
      rw[List.getLast?_eq_getElem?,dI,Nat.min_eq_left hkl,List.getElem?_take_of_lt (by omega),aP (by omega)]
     have h3:=hinc.last hlast c hc;have h4:=le (k - 1) k _ _ (by omega) (aP (by omega:k - 1<l.length))<|aP hk
     omega
   ·have hge:k=l.length:=by have:=of_decide_eq_false h;omega
    subst hge;rw[fG]at hinc;exact hinc
  ·match l,h2 with
   | [],h2=>simp at h2
   |a::l,_=>exact List.pairwise_singleton _ _
  ·rintro o ho;exact Tv ho (λs h=>SR ⟨h,λc=>Iff.rfl⟩)<|λr h=>SR h
def vn(l:List aH):List Int:=l.flatMap λr=>[r.X0,r.X1]
def j6(l:List aH):List Int:=l.flatMap λr=>[r.Y0,r.Y1]
theorem vo{l:List aH}{c:Int}:c∈vn l↔∃r∈l,c=r.X0\/c=r.X1:=by simp[vn,List.mem_flatMap]
theorem oc{l:List aH}{c:Int}:c∈j6 l↔∃r∈l,c=r.Y0\/c=r.Y1:=by simp[j6,List.mem_flatMap]
theorem tA(l:List aH):(vn l).length=2*l.length:=by
 induction l with
 |nil=>rfl
 |cons r l ih=>grind [vn]
theorem mU(l:List aH):(j6 l).length=2*l.length:=by
 induction l with
 |nil=>rfl
 |cons r l ih=>grind [j6]
def zD(X Y:List Int)(s:List Bd):Prop:=∀b∈s,b.y0∈Y/\b.y1∈Y/\∀c∈b.xs,c∈X
theorem zD.push{X Y:List Int}{s:List Bd}{b:Bd}(h:zD X Y s)(h0:b.y0∈Y)(h1:b.y1∈Y)(h2:∀c∈b.xs,c∈X):zD X Y (ko s b):=by
 intro c hc;unfold ko at hc;split at hc
 ·exact h c hc
 ·split at hc
  ·rename_i d hd;have hdm:d∈s:=List.mem_of_getLast? hd;split at hc
   ·rcases dD.1 hc with hc|hc
    ·exact h c<|List.dropLast_subset _ hc
    ·simp at hc;subst hc;exact⟨(h d hdm).1,h1,(h d hdm).2.2⟩
   ·rcases dD.1 hc with hc|hc
    ·exact h c hc
    grind
  grind
theorem j7.nodup{l:List Int}(h:j7 l):l.Nodup:=List.Pairwise.imp (λh=>by omega) h
theorem zD.row{X Y:List Int}{s:List Bd}(h:zD X Y s)(hc:fF s){b:Bd}(hb:b∈s):b.xs.length<=X.length:=gu (hc.each b hb).2.2.1.nodup (h b hb).2.2
theorem zD.len{X Y:List Int}{s:List Bd}(h:zD X Y s)(hc:fF s):s.length<=Y.length:=by
 have hn:(s.map Bd.y0).Nodup:=by
  unfold List.Nodup;rw[List.pairwise_map];refine List.Pairwise.imp_of_mem (λ{a b}ha hb hab=>?_) hc.ord;have:=(hc.each a ha).1;omega
 have:=gu hn (m:=Y) (λx hx=>by
  obtain⟨b,hb,rfl⟩:=dV.1 hx
  exact(h b hb).1)
 grind
theorem zD.mono{X Y X' Y':List Int}{s:List Bd}(h:zD X Y s)(hx:∀c∈X,c∈X')(hy:∀c∈Y,c∈Y'):zD X' Y' s:=λb hb=>⟨hy _ (h b hb).1,hy _ (h b hb).2.1,λc hc=>hx c<|(h b hb).2.2 c hc⟩
theorem Kl(s:List Bd)(b:Bd):(ko s b).length<=s.length+1:=by
 grind [ko,tz]
theorem j7.lt{l:List Int}(h:j7 l){i j:Nat}{x y:Int}(hij:i<j)(hx:l[i]? =some x)(hy:l[j]? =some y):x<y:=by
 have:=ov.1 h i j (bN.1 hx).1 (bN.1 hy).1 hij
 grind
theorem j7.next{l:List Int}(h:j7 l){k:Nat}{x y c:Int}(hx:l[k]? =some x)(hy:l[k+1]? =some y)(hc:c∈l)(hxc:x<c):y<=c:=by
 obtain⟨j,hj⟩:=dW hc
 rcases Nat.lt_trichotomy j (k+1)with h1|h1|h1
 ·exfalso
  by_cases e:j=k
  ·grind
  ·have:=h.lt (show j<k by omega) hj hx;omega
 ·grind
 ·have:=h.lt h1 hy hj;omega
theorem zu{l:List aH}{φ:aH->Option Bool}(p:aH->Bool)(hφ:∀x∈l,φ x=some (p x))(hl:l.length<=4611686018427387000)(hN:l.length<N):jr N l φ=some (l.filter<|λx=> !p x):=
 Lz (z:=(⟨0,0,0,0⟩:aH)) p hφ hl hN
theorem Ej{l:List aH}(hl:l.length<=268435456):ki N l=some l:=by
 grind [ki,lf,aB]
structure QF (l m:List aH) (ys:List Int) (k:Nat) (out:List aA) (now:List aH) (nx:Nat):Prop where
 can:fF (out.map cG)
 top:∀c∈out,∀y,ys[k]? =some y->c.Y1<=y
 cover:∀x y,wX (out.map cG) x y=(uE l x y&&decide (∀a,ys[k]? =some a->y<a))
 lim:zD (vn l) (j6 l) (out.map cG)
 SN:∀r∈now,r∈m.take nx
 SO:∀r∈m.take nx,∀y,ys[k]? =some y->y<r.Y1->r∈now
 len:now.length<=nx
 Sn:nx<=m.length
 rest:∀(j:Nat)r y,nx<=j->m[j]? =some r->ys[k]? =some y->y<=r.Y0
 low:∀r∈now,∀y,ys[k]? =some y->r.Y0<=y
theorem MQ{l m:List aH}(h:∀r,r∈l↔r∈m)(x y:Int):uE l x y=uE m x y:=by
 grind [kL]
structure tB (l:List aH) (s:List aA):Prop where
 can:fF (s.map cG)
 cover:∀x y,wX (s.map cG) x y=uE l x y
 lim:zD (vn l) (j6 l) (s.map cG)
theorem qZ{l:List aH}(hl:l.length<=134217728)(hok:∀r∈l,D3 r)(hN:4294967296<=N):Ok (iV N l) (tB l):=by
 unfold iV;refine IT (Ej (by omega)) ?_
 obtain⟨m,h1,h2,h3⟩:=Da (φ:=kY N) (l:=l) (λa b=>a.Y0 - b.Y0) (λa ha b hb=>by
  unfold kY;rw[wrap_small (hok a ha).s3 (hok b hb).s3]) (λa _=>by omega) (λa _ b _ c _ h1 h2=>by omega) (λa _ b _ c _ h1 h2=>by omega) (by omega)
 refine IT h1 ?_;have hml:m.length=l.length:=h2.length_eq;have hmem:∀r,r∈m↔r∈l:=λr=>h2.mem_iff;refine S3 (T0 (λk s=>s=j6 (m.take k)) (by omega) rfl<|λk s hk e=>?_) ?_
 ·grind [TU,TM,SR,mU,eA,j6]
 rintro s rfl;rw[fG];have hgs:w6 (j6 m)=some ((j6 m).mergeSort<|λx y=>decide<|x<=y):=by grind [w6,mU]
 refine IT hgs ?_;have hsp:((j6 m).mergeSort<|λx y=>decide<|x<=y).Pairwise (λx y=>x<=y):=by
  grind [List.pairwise_mergeSort,decide,j6,List.Pairwise.imp]
 have hsm:∀c,c∈(j6 m).mergeSort (λx y=>decide<|x<=y)↔c∈j6 m:=λc=>List.mem_mergeSort;have hsl:((j6 m).mergeSort<|λx y=>decide<|x<=y).length=2*m.length:=by rw[List.length_mergeSort,mU]
 generalize (j6 m).mergeSort (λx y=>decide<|x<=y)=sy at hsp hsm hsl;refine S3 (FP (N:=N) hsp (by omega) (by omega)) ?_;rintro ys⟨hy,hym⟩;have hyl:ys.length<=2*m.length:=by
  have:=gu hy.nodup (m:=sy)<|λc hc=>(hym c).1 hc
  omega
 have y0m:∀r∈m,r.Y0∈ys:=λr hr=>(hym _).2<|(hsm _).2<|oc.2 ⟨r,hr, .inl rfl⟩
 have y1m:∀r∈m,r.Y1∈ys:=λr hr=>(hym _).2<|(hsm _).2<|oc.2 ⟨r,hr, .inr rfl⟩
 have yml:∀c∈ys,c∈j6 l:=λc hc=>by
  grind [oc]
 refine S3 (T4 (Go:=λs=>tB l s.1) (Rt:=λ_=>True) (λs=>∃k nx:Nat,s.2.2.2=((k:Nat):Int)/\s.2.2.1=((nx:Nat):Int)/\(k<ys.length\/k=0)/\QF l m ys k s.1 s.2.1 nx) (λs=>ys.length - s.2.2.2.toNat) ?_ ?_ (by simp;omega)) ?_
 ·rintro⟨out,now,a,b⟩⟨k,nx,e1,e2,hk,I⟩;dsimp only at e1 e2 I ⊢;subst e1;subst e2;rw[bI (by omega)];refine Tx (λh=>?_)<|λh=>Tu ?_
  ·have hk1:k+1<ys.length:=by grind
   have hyk:ys[k]? =some ys[k]:=aP _;have hyk1:ys[k+1]? =some ys[k+1]:=aP hk1;have hlt:=hy.lt (Nat.lt_succ_self k) hyk hyk1;have hcov:=I.cover;simp only[hyk,Option.some.injEq,forall_eq']at hcov;refine IT (zu (λr=>decide<|r.Y1<=ys[k]) (λr _=>by grind [qp,l6,aB]) (by have:=I.len;have:=I.Sn;omega) (by have:=I.len;have:=I.Sn;omega)) ?_;have hfl:=rf (λr:aH=> !decide (r.Y1<=ys[k])) now;have hIl:=I.len;have hIn:=I.Sn
   refine S3 (T4 (Go:=λs=>∃nx':Nat,s.2=((nx':Nat):Int)/\nx'<=m.length/\s.1.length<=nx'/\(∀r∈s.1,r∈m.take nx')/\(∀r∈m.take nx',ys[k]<r.Y1->r∈s.1)/\(∀r∈s.1,r.Y0<=ys[k]/\ys[k]<r.Y1)/\(∀(j:Nat)r,nx'<=j->m[j]? =some r->ys[k]<r.Y0)) (Rt:=λ_=>True)
    (λs=>∃nx':Nat,s.2=((nx':Nat):Int)/\nx<=nx'/\nx'<=m.length/\s.1.length<=nx'/\(∀r∈s.1,r∈m.take nx')/\(∀r∈m.take nx',ys[k]<r.Y1->r∈s.1)/\(∀r∈s.1,r.Y0<=ys[k]/\ys[k]<r.Y1)) (λs=>m.length - s.2.toNat) ?_ ?_ (by simp;omega)) ?_
   ·rintro⟨nw,b⟩⟨nx',e1,g0,g1,g2,g3,g4,g5⟩;dsimp only at e1 g2 g3 g4 g5 ⊢;subst e1;refine S3 (P:=λb=>b=true↔∃h:nx'<m.length,m[nx'].Y0<=ys[k]) ?_ ?_
    ·refine Tx (λh=>?_)<|λh=>SR ?_
     ·have hlt:nx'<m.length:=by have:=of_decide_eq_true h;omega
      refine TU hlt<|TU (by omega)<|SR ?_
      rw[cP];exact⟨λh=>⟨hlt,h⟩,λ⟨_,h⟩=>h⟩
     ·have:=of_decide_eq_false h;constructor
      ·intro h;cases h
      ·rintro⟨h,_⟩;omega
    ·intro bb hbb;refine Tx (λh=>?_)<|λh=>Tu ?_
     ·obtain⟨hlt,h0⟩:=hbb.1 h;have hts:m.take (nx'+1)=m.take nx'++[m[nx']]:=eA hlt;refine TU hlt<|TM (by simp;omega)<|Tk ⟨⟨nx'+1,by rw[bI (by omega)],by omega,by omega,by simp;omega,λr hr=>?_,λr hr hr2=>?_,λr hr=>?_⟩,by rw[bI (by omega)];simp only[cI];omega⟩
      ·rw[hts]
       rcases dD.1 hr with h|h
       ·exact List.mem_append_left _<|g3 r h
       ·exact List.mem_append_right _ h
      ·rw[hts]at hr
       rcases dD.1 hr with h|h
       ·exact List.mem_append_left _<|g4 r h hr2
       ·exact List.mem_append_right _ h
      ·rcases dD.1 hr with h|h
       ·exact g5 r h
       ·simp at h;subst h;refine⟨h0,?_⟩;have:=(hok m[nx']<|(hmem _).1<|cL hlt).y;have:=I.rest nx' _ ys[k] g0 (aP hlt) hyk;omega
     ·refine⟨nx',rfl,g1,g2,g3,g4,g5,λj r hj hr=>?_⟩;have hjl:=(bN.1 hr).1;have hlt:nx'<m.length:=by omega
      have h0:¬m[nx'].Y0<=ys[k]:=λh0=>by rw[hbb.2 ⟨hlt,h0⟩]at h;cases h
      by_cases e:nx'=j
      ·subst e;rw[aP hlt]at hr;injection hr with hr;subst hr;omega
      ·have:=ov.1 h3 nx' j hlt hjl (by omega);have hr':=(bN.1 hr).2;rw[hr']at this;omega
   ·refine⟨nx,rfl,cH _,hIn,by dsimp only;omega,λr hr=>I.SN r (my.1 hr).1,λr hr h=>my.2 ⟨I.SO r hr ys[k] hyk h,by simpa using h⟩,λr hr=>?_⟩;have hr:=my.1 hr;have hr2:ys[k]<r.Y1:=by simpa using hr.2
    exact⟨I.low r hr.1 ys[k] hyk,hr2⟩
   ·rintro o ho;refine Tv ho ?_<|λr=>r.elim
    rintro⟨nw,b⟩⟨nx',e1,g1,g2,g3,g4,g5,g6⟩;dsimp only at e1 g2 g3 g4 g5 ⊢;subst e1;refine TU (by omega)<|TU hk1 ?_
    have hnm:∀r∈nw,r∈l:=λr hr=>(hmem r).1<|List.take_subset _ _<|g3 r hr
    obtain⟨row,nw',s1,s2,s3,s4,s5,s6,s7⟩:=FM (N:=N) (l:=nw) (by omega)<|λr hr=>hok r<|hnm r hr
    refine IT s1 ?_;have hlimx:∀c∈row,c∈vn l:=λc hc=>by
     obtain⟨r,hr,h⟩:=s7 c hc;exact vo.2 ⟨r,hnm r hr,h⟩
    have hol:out.length<=2*l.length:=by have:=I.lim.len I.can;rw[mU,dU]at this;exact this
    have hox:∀c∈out,c.Xs.length<=2*l.length:=λc hc=>by
     have:=I.lim.row I.can (b:=cG c)<|dV.2 ⟨c,hc,rfl⟩
     rw[tA]at this;exact this
    obtain⟨out',p1,p2⟩:=Jx (N:=N) (s:=out) (b:=⟨ys[k],ys[k+1],row⟩) (by omega) (λc hc=>by have:=hox c hc;omega);refine IT p1 ?_;have htop:∀c∈out.map cG,c.y1<=(cG ⟨ys[k],ys[k+1],row⟩).y0:=λc hc=>by
     obtain⟨d,hd,rfl⟩:=dV.1 hc;exact I.top d hd ys[k] hyk
    have hcan:=yb I.can htop s3 s4;refine Tk ⟨⟨k+1,nx',rfl,rfl, .inl hk1,⟨by dsimp only;rw[p2];exact hcan,λc hc y hy1=>?_,λx y=>?_,?_,λr hr=>g3 r<|s2.subset hr,λr hr y hy1 h=>?_,by rw[s2.length_eq];exact g2,g1,λj r y hj hr hy1=>?_,λr hr y hy1=>?_⟩⟩,by simp only[cI];omega⟩
    ·rw[hyk1]at hy1;injection hy1 with hy1;subst hy1
     have hm':cG c∈ko (out.map cG) (cG ⟨ys[k],ys[k+1],row⟩):=by rw[<-p2];exact dV.2 ⟨c,hc,rfl⟩
     exact yc htop (by show ys[k]<=ys[k+1];omega) _ hm'
    ·simp only[hyk1,Option.some.injEq,forall_eq'];unfold wX;rw[p2,ya htop (λc hc=>(I.can.each c hc).1)<|λh=>absurd h (by show ¬ys[k+1]<=ys[k];omega)]
     by_cases hyy:ys[k]<=y/\y<ys[k+1]
     ·rw[aG (show(cG ⟨ys[k],ys[k+1],row⟩).y0<=y/\y<(cG ⟨ys[k],ys[k+1],row⟩).y1 from hyy),bO hyy.2,Bool.and_true];show qJ row x=_;rw[s5,gS,Dh,kL];constructor
      ·rintro⟨r,hr,h⟩;have hrm:=List.take_subset _ _<|g3 r hr
       have h5:=g5 r hr;have:=hy.next hyk hyk1 (y1m r hrm) h5.2;exact⟨r,hnm r hr,h,by omega,by omega⟩
      ·rintro⟨r,hr,h,h7,h8⟩;have hrm:=(hmem r).2 hr;have h9:r.Y0<=ys[k]:=by
        by_cases h10:r.Y0<=ys[k]
        ·exact h10
        ·have:=hy.next hyk hyk1 (y0m r hrm) (by omega);omega
       have h11:r∈m.take nx':=by
        obtain⟨j,hj⟩:=dW hrm
        by_cases h12:j<nx'
        ·exact fQ (i:=j) (by rw[List.getElem?_take_of_lt h12];exact hj)
        ·have:=g6 j r (by omega) hj;omega
       exact⟨r,g4 r h11 (by omega),h⟩
     ·rw[aI (show ¬((cG ⟨ys[k],ys[k+1],row⟩).y0<=y/\y<(cG ⟨ys[k],ys[k+1],row⟩).y1)from hyy)];show wX (out.map cG) x y=_;rw[hcov]
      by_cases h1:y<ys[k]
      ·rw[bO h1,bO (show y<ys[k+1]by omega)]
      ·rw[bQ h1,bQ (show ¬y<ys[k+1]by omega)]
    ·show zD (vn l) (j6 l) (out'.map cG);rw[p2];exact I.lim.push (yml _<|cL _) (yml _<|cL _) hlimx
    ·rw[hyk1]at hy1;injection hy1 with hy1;subst hy1
     exact s2.symm.subset<|g4 r hr (by omega)
    ·rw[hyk1]at hy1;injection hy1 with hy1;subst hy1
     exact hy.next hyk hyk1 (y0m r<|fQ hr)<|g6 j r hj hr
    ·rw[hyk1]at hy1;injection hy1 with hy1;subst hy1
     have:=(g5 r<|s2.subset hr).1;omega
  ·have hge:¬k+1<ys.length:=by have:=of_decide_eq_false h;omega
   refine⟨I.can,λx y=>?_,I.lim⟩;rw[I.cover]
   by_cases hyn:ys= []
   ·have:uE l x y=false:=by
     rw[<-l5,kL];rintro⟨r,hr,_⟩;have:=y0m r<|(hmem r).2 hr
     rw[hyn]at this;cases this
    rw[this];rfl
   ·have hkl:k<ys.length:=by
     rcases hk with h|h
     ·exact h
     ·subst h;exact List.length_pos_iff.2 hyn
    rw[aP hkl];simp only[Option.some.injEq,forall_eq']
    cases hc:uE l x y with
    |false=>rfl
    |true=>
     obtain⟨r,hr,_,h7,h8⟩:=kL.1 hc;have:=y1m r<|(hmem r).2 hr
     obtain⟨j,hj⟩:=dW this;have hjl:=(bN.1 hj).1;have:r.Y1<=ys[k]:=by
      by_cases e:j=k
      ·subst e;rw[aP hkl]at hj;injection hj with hj;omega
      ·have:=hy.lt (show j<k by omega) hj<|aP hkl;omega
     rw[bO (show y<ys[k]by omega)];rfl
 ·refine⟨0,0,rfl,rfl, .inr rfl,?_⟩;show QF l m ys 0 [] [] 0;refine⟨fF.nil,λc hc=>(by cases hc),λx y=>?_,λb hb=>(by cases hb),λr hr=>(by cases hr),λr hr=>(by rw[List.take_zero]at hr;cases hr),cH _,cT _,λj r y _ hr hy0=>?_,λr hr=>(by cases hr)⟩
  ·show false=_;symm;rw[Bool.and_eq_false_iff]
   cases hc:uE l x y with
   |false=>exact .inl rfl
   |true=>
    right;obtain⟨r,hr,_,h7,h8⟩:=kL.1 hc;have hr0:=y0m r<|(hmem r).2 hr
    have hpos:0<ys.length:=List.length_pos_of_mem hr0;rw[decide_eq_false_iff_not];intro h;have h:=h ys[0]<|aP hpos
    obtain⟨j,hj⟩:=dW hr0
    by_cases e:j=0
    ·subst e;rw[aP hpos]at hj;injection hj with hj;omega
    ·have:=hy.lt (show 0<j by omega) (aP hpos) hj;omega
  ·obtain⟨j',hj'⟩:=dW<|y0m r<|fQ hr
   by_cases e:j'=0
   ·subst e;rw[hy0]at hj';injection hj' with hj';omega
   ·have:=hy.lt (show 0<j' by omega) hy0 hj';omega
 ·rintro o ho;refine Tv ho (λs h=>SR h)<|λr=>r.elim
end
section
variable {N:Nat}
def Dk:List Int->List (Int×Int)
 |a::b::l=>(a,b)::Dk l
 |_=>[]
theorem CB:∀(xs:List Int),(Dk xs).length=xs.length / 2
 | []=>rfl
 | [a]=>by simp[Dk]
 |a::b::l=>by unfold Dk;rw[fq,CB l];simp only[fq];omega
theorem Ax:∀(xs:List Int)(j:Nat)(h:2*j+1<xs.length),(Dk xs)[j]? =some (xs[2*j],xs[2*j+1])
 | [],j,h=>by simp at h
 | [a],j,h=>by simp at h
 |a::b::l,0,h=>rfl
 |a::b::l,j+1,h=>by
  have:=Ax l j (by grind);unfold Dk;rw[List.getElem?_cons_succ,this];have e1:(a::b::l)[2*(j+1)]=l[2*j]'(by grind):=by simp[show 2*(j+1)=2*j+1+1 by omega]
  have e2:(a::b::l)[2*(j+1)+1]=l[2*j+1]'(by grind):=by simp[show 2*(j+1)+1=2*j+1+1+1 by omega]
  rw[e1,e2]
theorem Dl:∀{xs:List Int},xs.length % 2=0->dO (Dk xs)=xs
 | [],_=>rfl
 | [a],h=>by simp at h
 |a::b::l,h=>by unfold Dk;rw[kB,Dl (by grind)]
theorem MR{xs:List Int}(h:j7 xs)(he:xs.length % 2=0)(x:Int):qJ xs x=j5 (Dk xs) x:=by
 grind [vl,Dk,Dl]
theorem FQ{xs:List Int}:∀p∈Dk xs,p.1∈xs/\p.2∈xs:=by
 grind [dW,bN,CB,Ax,cL]
theorem Iz{xs:List Int}(h:j7 xs):∀p∈Dk xs,p.1<p.2:=by
 intro p hp;obtain⟨j,hj⟩:=dW hp;have hjl:=(bN.1 hj).1;rw[CB]at hjl;rw[Ax xs j (by omega)]at hj;injection hj with hj;subst hj
 exact h.lt (show 2*j<2*j+1 by omega) (aP _)<|aP _
def oe(b:aA):List aH:=(Dk b.Xs).map λp=>⟨p.1,b.Y0,p.2,b.Y1⟩
def aU(s:List aA):List aH:=s.flatMap oe
theorem og(b:aA)(s:List aA):aU (b::s)=oe b++aU s:=rfl
theorem q8(b:aA):(oe b).length=b.Xs.length / 2:=by simp[oe,dU,CB]
theorem pr(s t:List aA):aU (s++t)=aU s++aU t:=List.flatMap_append
theorem Bl(s:List aA)(k:Nat):(aU<|s.take k).length<=(aU s).length:=by
 grind [List.take_append_drop,pr,eL]
theorem Dm{s:List aA}{A B:Nat}(h1:s.length<=A)(h2:∀b∈s,b.Xs.length<=B):(aU s).length<=A*B:=by
 induction s generalizing A with
 |nil=>simp[aU]
 |cons b s ih=>
  rw[og,eL,q8];simp at h1;obtain⟨A',rfl⟩:∃A',A=A'+1:=⟨A - 1,by omega⟩
  grind
theorem Dn{s:List aA}(he:∀b∈s,b.Xs.length % 2=0)(h1:s.length<=1099511627776)(h2:∀b∈s,b.Xs.length<=1099511627776/\b.Xs.length<N)(h3:(aU s).length<=1099511627776):ky N s=some (aU s):=by
 refine TT ?_;unfold ky;refine S3 (T0 (λk t=>t=aU (s.take k)) (by omega) rfl<|λk t hk e=>?_)<|λt e=>SR (by rw[e,fG])
 subst e;refine TU hk ?_;have hm:=cL hk;generalize hb:s[k]=b at hm ⊢;have heb:=he b hm;have hbl:=h2 b hm;have hts:aU (s.take<|k+1)=aU (s.take k)++oe b:=by
  grind [eA,pr,aU]
 have hle:=Bl s<|k+1
 rw[hts,eL,q8]at hle;refine S3 (T4 (Go:=λs'=>s'.1=aU (s.take<|k+1)) (Rt:=λ_=>True) (λs'=>∃j:Nat,s'.2=((2*j:Nat):Int)/\2*j<=b.Xs.length/\s'.1=aU (s.take k)++(oe b).take j) (λs'=>b.Xs.length - s'.2.toNat) ?_ ⟨0,rfl,by omega,by simp⟩ (by simp;omega)) ?_
 ·rintro⟨acc,i⟩⟨j,e1,hj,e2⟩;dsimp only at e1 e2 ⊢;subst e1;subst e2;refine Tx (λh=>?_)<|λh=>Tu ?_
  ·have hlt:2*j+1<b.Xs.length:=by grind
   refine TU (by omega) ?_;rw[bI (by omega)];refine TU hlt<|TM ?_<|Tk ⟨⟨j+1,?_,by omega,?_⟩,?_⟩
   ·grind
   ·rw[EW (by omega)];congr 1
   ·rw[py];congr 1;have hg:(oe b)[j]? =some ⟨b.Xs[2*j],b.Y0,b.Xs[2*j+1],b.Y1⟩:=by
     grind [oe,Ax]
    have hjl:=(bN.1 hg).1;rw[eA hjl,(bN.1 hg).2]
   ·rw[EW (by omega)];simp only[cI];omega
  ·have hge:2*j=b.Xs.length:=by have:=of_decide_eq_false h;omega
   show aU (s.take k)++(oe b).take j=_;rw[hts,mz (l:=oe b) (by rw[q8];omega)]
 ·rintro o ho;exact Tv ho (λs' h=>SR h)<|λr=>r.elim
theorem MS{s:List aA}(h1:s.length<=1099511627776)(h2:∀b∈s,b.Xs.length<=1099511627776)(h3:(aU s).length<=1099511627776):nS N s=some (((aU s).length:Nat):Int):=by
 refine TT ?_;unfold nS;refine S3 (T0 (λk t=>t=(((aU<|s.take k).length:Nat):Int)) (by omega) rfl<|λk t hk e=>?_)<|λt e=>SR (by rw[e,fG])
 subst e;refine TU hk<|SR ?_
 have hm:=cL hk;have hbl:=h2 _ hm;have hts:aU (s.take<|k+1)=aU (s.take k)++oe s[k]:=by
  grind [eA,pr,aU]
 grind [hle,Bl,eL,q8,Int.tdiv,Int.ofNat_tdiv,Hi,wrap_add]
theorem IA(l m:List aH)(x y:Int):uE (l++m) x y=(uE l x y||uE m x y):=List.any_append
theorem LB{b:aA}(h:j7 b.Xs)(he:b.Xs.length % 2=0)(x y:Int):uE (oe b) x y=(qJ b.Xs x&&(decide (b.Y0<=y)&&decide (y<b.Y1))):=by
 rw[MR h he,gS,kL,cO,vk,cO,cP,cP];unfold oe;constructor
 ·grind
 ·rintro⟨⟨p,hp,h1⟩,h2⟩;exact⟨_,dV.2 ⟨p,hp,rfl⟩,h1,h2⟩
theorem q9:∀{s:List aA},fF (s.map cG)->∀x y,uE (aU s) x y=wX (s.map cG) x y
 | [],_,x,y=>rfl
 |b::s,h,x,y=>by
  rw[og,IA,q9 h.tail x y];have hb:=h.each (cG b) (by simp);rw[LB hb.2.2.1 hb.2.2.2];unfold wX;rw[eY,n8]
  by_cases hy:b.Y0<=y/\y<b.Y1
  ·rw[aG (show(cG b).y0<=y/\y<(cG b).y1 from hy),mG<|λc hc=> .inl (by have:=h.Df c hc;grind [cG]),bO hy.1,bO hy.2];show(qJ b.Xs x&&true||false)=qJ b.Xs x;simp
  ·rw[aI (show ¬((cG b).y0<=y/\y<(cG b).y1)from hy)];have:(decide (b.Y0<=y)&&decide (y<b.Y1))=false:=by rw[Bool.and_eq_false_iff,decide_eq_false_iff_not,decide_eq_false_iff_not];omega
   rw[this];simp
theorem sY{s:List aA}{r:aH}(h:r∈aU s):∃b∈s,∃p∈Dk b.Xs,r= ⟨p.1,b.Y0,p.2,b.Y1⟩:=by
 unfold aU oe at h
 grind
theorem Dp{s:List aA}{X Y:List Int}(h:fF (s.map cG))(hl:zD X Y (s.map cG))(hx:∀c∈X,small c)(hy:∀c∈Y,small c):∀r∈aU s,D3 r/\(r.X0∈X/\r.X1∈X)/\r.Y0∈Y/\r.Y1∈Y:=by
 intro r hr;obtain⟨b,hb,p,hp,rfl⟩:=sY hr;have hm:cG b∈s.map cG:=dV.2 ⟨b,hb,rfl⟩;have hc:=h.each _ hm;have hll:=hl _ hm;have h1:=FQ p hp;have h2:=hll.2.2 p.1 h1.1;have h3:=hll.2.2 p.2 h1.2;exact⟨⟨Iz hc.2.2.1 p hp,hc.1,hx _ h2,hx _ h3,hy _ hll.1,hy _ hll.2.1⟩,⟨h2,h3⟩,hll.1,hll.2.1⟩
theorem zv{l:List Int}{x:Int}(h:∀c∈l,c<=x):qJ l x=(l.length % 2==1):=by grind [qJ,Jv]
theorem Bm{l:List Int}{a x:Int}(h:x<a):qJ (l++[a]) x=qJ l x:=by grind [qJ,Db,pq,FL]
def Km(l:List Int):Bool:=l.length % 2==1
theorem Dq(l:List Int)(a:Int):Km (l++[a]) = !Km l:=by
 unfold Km
 grind
structure Hj (iC:Bool->Bool->Bool) (a b a' b' out:List Int) (inA inB is:Bool) (pa pb:List Int):Prop where
 ea:a=pa++a'
 eb:b=pb++b'
 oa:inA=Km pa
 ob:inB=Km pb
 oo:is=Km out
 ok:is=iC inA inB
 low:∀c,(c∈pa\/c∈pb\/c∈out)->∀d,(d∈a'\/d∈b')->c<d
 inc:j7 out
 QG:∀x,(∀d,(d∈a'\/d∈b')->x<d)->qJ out x=iC (qJ pa x) (qJ pb x)
 mem:∀c∈out,c∈pa\/c∈pb
 len:out.length<=pa.length+pb.length
theorem Hj.step{iC:Bool->Bool->Bool}{a b a' b' out:List Int}{inA inB is:Bool}{pa pb:List Int}(I:Hj iC a b a' b' out inA inB is pa pb)(ha:j7 a)(hb:j7 b)(x:Int)(ta tb:List Int)(wa wb:Bool)
  (h1:a'=(if wa then x::ta else ta)) (h2:b'=(if wb then x::tb else tb)) (hw:wa=true\/wb=true) (hx:∀d,(d∈ta\/d∈tb)->x<d):
  Hj iC a b ta tb (if iC (inA ^^ wa) (inB ^^ wb)=is then out else out++[x]) (inA ^^ wa) (inB ^^ wb) (iC (inA ^^ wa)<|inB ^^ wb) (if wa then pa++[x]else pa) (if wb then pb++[x]else pb):=by
 have hxm:x∈a'\/x∈b':=by
  grind
 have hsub:∀d,(d∈ta\/d∈tb)->d∈a'\/d∈b':=λd hd=>by
  grind
 have hlow:∀c,(c∈pa\/c∈pb\/c∈out)->c<x:=λc hc=>I.low c hc x hxm;have hpa:∀c∈(if wa then pa++[x]else pa),c∈pa\/(wa=true/\c=x):=λc hc=>by
  grind
 have hpb:∀c∈(if wb then pb++[x]else pb),c∈pb\/(wb=true/\c=x):=λc hc=>by
  grind
 have hout:∀c∈(if iC (inA ^^ wa) (inB ^^ wb)=is then out else out++[x]),c∈out\/c=x:=λc hc=>by
  grind
 have ooA:(inA ^^ wa)=Km (if wa then pa++[x]else pa):=by
  rw[I.oa];grind [Dq]
 have ooB:(inB ^^ wb)=Km (if wb then pb++[x]else pb):=by
  rw[I.ob];grind [Dq]
 have ooO:iC (inA ^^ wa) (inB ^^ wb)=Km (if iC (inA ^^ wa) (inB ^^ wb)=is then out else out++[x]):=by
  split
  ·rename_i h;rw[h];exact I.oo
  ·rename_i h;rw[Dq,<-I.oo]
   cases hk:iC (inA ^^ wa) (inB ^^ wb) <;> cases his:is <;> simp_all
 refine⟨?_,?_,ooA,ooB,ooO,rfl,?_,?_,?_,?_,?_⟩
 ·rw[I.ea,h1];grind
 ·rw[I.eb,h2];grind
 ·grind
 ·split
  ·exact I.inc
  ·exact I.inc.LA λc hc=>hlow c<|.inr<|.inr hc
 ·intro y hy
  by_cases hxy:y<x
  ·have e1:qJ (if wa then pa++[x]else pa) y=qJ pa y:=by grind [Bm]
   have e2:qJ (if wb then pb++[x]else pb) y=qJ pb y:=by grind [Bm]
   have e3:qJ (if iC (inA ^^ wa) (inB ^^ wb)=is then out else out++[x]) y=qJ out y:=by grind [Bm]
   rw[e1,e2,e3];refine I.QG y λd hd=>?_
   grind
  ·rw[zv (l:=if wa then pa++[x]else pa),zv (l:=if wb then pb++[x]else pb),zv]
   ·have e1:=ooA;have e2:=ooB;have e3:=ooO;unfold Km at e1 e2 e3;rw[<-e1,<-e2,<-e3]
   ·intro c hc
    rcases hout c hc with h|rfl
    ·have:=hlow c<|.inr<|.inr h;omega
    ·omega
   ·intro c hc
    rcases hpb c hc with h|⟨_,rfl⟩
    ·have:=hlow c<|.inr<|.inl h;omega
    ·omega
   ·intro c hc
    rcases hpa c hc with h|⟨_,rfl⟩
    ·have:=hlow c<|.inl h;omega
    ·omega
 ·intro c hc;have m1:∀c,c∈pa->c∈(if wa then pa++[x]else pa):=λc h=>by split;exact List.mem_append_left _ h;exact h
  have m2:∀c,c∈pb->c∈(if wb then pb++[x]else pb):=λc h=>by split;exact List.mem_append_left _ h;exact h
  rcases hout c hc with h|rfl
  ·rcases I.mem c h with h|h
   ·exact .inl<|m1 c h
   ·exact .inr<|m2 c h
  ·rcases hw with h|h
   ·left;rw[aG h];simp
   ·right;rw[aG h];simp
 ·have:=I.len;have h3:(if wa then pa++[x]else pa).length+(if wb then pb++[x]else pb).length>=pa.length+pb.length+1:=by
   rcases hw with h|h
   ·subst h;cases wb <;> simp <;> omega
   ·subst h;cases wa <;> simp <;> omega
  split
  ·omega
  ·simp at h3 ⊢;omega
end
section
variable {N:Nat}
theorem kF(x:Int)(l:List Int):idx (x::l) 0=some x:=rfl
theorem vq{α:Type}(x:α)(l:List α):uj (x::l) 1 (((x::l).length:Nat):Int)=some l:=rB (x::l) 1 (by simp)
theorem lS{α:Type}(x:α)(l:List α):decide ((((x::l).length:Nat):Int)>0)=true:=bO (by simp)
theorem yd{α:Type}(x:α)(l:List α):((((x::l).length:Nat):Int)==0)=false:=by rfl
theorem IB{a b:List Int}(ha:j7 a)(hb:j7 b)(h:a≠[]\/b≠[]):∃x ta tb wa wb,a=(if wa then x::ta else ta)/\b=(if wb then x::tb else tb)/\(wa=true\/wb=true)/\(∀d,(d∈ta\/d∈tb)->x<d):=by
 match a,b,ha,hb,h with
 | [],[],_,_,h=>grind
 |x::ta,[],ha,_,_=>exact⟨x,ta,[],true,false,rfl,rfl, .inl rfl,λd hd=>by rcases hd with h|h;exact ha.head d h;cases h⟩
 | [],y::tb,_,hb,_=>exact⟨y,[],tb,false,true,rfl,rfl, .inr rfl,λd hd=>by rcases hd with h|h;cases h;exact hb.head d h⟩
 |x::ta,y::tb,ha,hb,_=>
  rcases Int.lt_trichotomy x y with h|h|h
  ·refine⟨x,ta,y::tb,true,false,rfl,rfl, .inl rfl,λd hd=>?_⟩
   rcases hd with h1|h1
   ·exact ha.head d h1
   ·rcases eF.1 h1 with rfl|h1
    ·exact h
    ·have:=hb.head d h1;omega
  ·subst h;exact⟨x,ta,tb,true,true,rfl,rfl, .inl rfl,λd hd=>by rcases hd with h|h;exact ha.head d h;exact hb.head d h⟩
  ·refine⟨y,x::ta,tb,false,true,rfl,rfl, .inr rfl,λd hd=>?_⟩
   rcases hd with h1|h1
   ·rcases eF.1 h1 with rfl|h1
    ·exact h
    ·have:=ha.head d h1;omega
   ·exact hb.head d h1
theorem Kn{φ:Bool->Bool->Option Bool}{iC:Bool->Bool->Bool}(hφ:∀p q,φ p q=some (iC p q))(hk:iC false false=false){a b:List Int}(ha:j7 a)(hb:j7 b)(hae:a.length % 2=0)(hbe:b.length % 2=0)
  (tV:a.length<=1099511627776) (hbl:b.length<=1099511627776) (hN:a.length+b.length<N):
  Ok (s8 N a b φ) (λm=>j7 m/\m.length % 2=0/\(∀x,qJ m x=iC (qJ a x) (qJ b x))/\∀c∈m,c∈a\/c∈b):=by
 unfold s8
 refine S3 (T4 (Go:=λs=>j7 s.2.2.1/\s.2.2.1.length % 2=0/\(∀x,qJ s.2.2.1 x=iC (qJ a x) (qJ b x))/\∀c∈s.2.2.1,c∈a\/c∈b) (Rt:=λ_=>True)
  (λs=>∃pa pb,Hj iC a b s.1 s.2.1 s.2.2.1 s.2.2.2.1 s.2.2.2.2.1 s.2.2.2.2.2 pa pb) (λs=>s.1.length+s.2.1.length) ?_ ?_ hN) ?_
 ·rintro⟨a',b',out,inA,inB,is⟩⟨pa,pb,I⟩;dsimp only at I ⊢;have ha':j7 a':=by have:=ha;rw[I.ea]at this;exact(List.pairwise_append.1 this).2.1
  have hb':j7 b':=by have:=hb;rw[I.eb]at this;exact(List.pairwise_append.1 this).2.1
  have hle:pa.length+a'.length=a.length:=by rw[I.ea];simp
  have hlb:pb.length+b'.length=b.length:=by rw[I.eb];simp
  have hlo:=I.len
  by_cases hne:a'≠[]\/b'≠[]
  ·obtain⟨x,ta,tb,wa,wb,h1,h2,hw,hx⟩:=IB ha' hb' hne;have J:=I.step ha hb x ta tb wa wb h1 h2 hw hx;have fin:∀(sa sb:List Int×Bool),sa=(ta,inA ^^ wa)->sb=(tb,inB ^^ wb)->
     Ok ((φ sa.2 sb.2).bind λx220=>(bif x220 != is then((app 8 out ([x]:List Int)).bind λx227=>some (x227,x220))else some (out,is)).bind λs224=>some<|Fl.nx (sa.1,sb.1,s224.1,sa.2,sb.2,s224.2))
      (Mf (λs':List Int×List Int×List Int×Bool×Bool×Bool=>(∃pa pb,Hj iC a b s'.1 s'.2.1 s'.2.2.1 s'.2.2.2.1 s'.2.2.2.2.1 s'.2.2.2.2.2 pa pb)/\s'.1.length+s'.2.1.length<a'.length+b'.length) (λs=>j7 s.2.2.1/\s.2.2.1.length % 2=0/\(∀x,qJ s.2.2.1 x=iC (qJ a x) (qJ b x))/\∀c∈s.2.2.1,c∈a\/c∈b) (λ_:Empty=>True)):=by
    rintro _ _ rfl rfl;refine IT (hφ _ _) ?_;have hlt:ta.length+tb.length<a'.length+b'.length:=by
     rw[h1,h2]
     rcases hw with h|h
     ·subst h;cases wb <;> simp <;> omega
     ·subst h;cases wa <;> simp <;> omega
    by_cases he:iC (inA ^^ wa) (inB ^^ wb)=is
    ·rw[aG he]at J;refine IT (x:=(out,is)) (by grind) ?_;rw[he]at J;exact Tk ⟨⟨_,_,J⟩,hlt⟩
    ·rw[aI he]at J;refine IT (x:=(out++[x],iC (inA ^^ wa)<|inB ^^ wb)) (by grind [lf,aB])<|Tk ⟨⟨_,_,J⟩,hlt⟩
   rcases hw with rfl|rfl
   ·rw[aG rfl]at h1;subst h1;refine IT (x:=true) (by rw[lS,aM]) ?_;rw[aM];have hle2:(bif((b'.length:Nat):Int)==0 then some true else(bif decide ((((x::ta).length:Nat):Int)>0)then((idx (x::ta) 0).bind λx181=>(idx b' 0).bind λx183=>some<|decide<|x181<=x183)else some false))=some true:=by
     cases b' with
     |nil=>rfl
     |cons y b''=>
      rw[yd,aQ,lS,aM,kF,aB,kF,aB];have:x<=y:=by
       cases wb with
       |true=>grind
       |false=>have:=hx y (.inr (by grind));omega
      rw[bO this]
    refine IT hle2 ?_;rw[aM];refine IT (x:=x) (by rw[kF,aB]) ?_;refine IT (x:=true) (by simp[lS,aM,kF,aB]) ?_;refine IT (x:=(ta,!inA)) (by grind [vq,aB]) ?_
    cases wb with
    |true=>
     rw[aG rfl]at h2;subst h2;refine IT (x:=true) (by rw[lS,aM,kF,aB];simp) ?_;refine IT (x:=(tb,!inB)) (by rw[aM,vq,aB]) ?_;exact fin _ _ (by simp) (by simp)
    |false=>
     have h2:b'=tb:=h2;subst h2;refine IT (x:=false) ?_ ?_
     ·cases b' with
      |nil=>rfl
      |cons y b''=>
       have:=hx y<|.inr (by simp)
       rw[lS,aM,kF,aB,show(y==x)=false by rw[beq_eq_false_iff_ne];omega]
     ·refine IT (x:=(b',inB)) (by rw[aQ]) ?_;exact fin _ _ (by simp) (by simp)
   ·cases wa with
    |true=>
     rw[aG rfl]at h1 h2;subst h1;subst h2;refine IT (x:=true) (by rw[lS,aM]) ?_;rw[aM];refine IT (x:=true) (by rw[yd,aQ,lS,aM,kF,aB,kF,aB];simp) ?_;rw[aM];refine IT (x:=x) (by rw[kF,aB]) ?_;refine IT (x:=true) (by rw[lS,aM,kF,aB];simp) ?_;refine IT (x:=(ta,!inA)) (by rw[aM,vq,aB]) ?_;refine IT (x:=true) (by rw[lS,aM,kF,aB];simp) ?_;refine IT (x:=(tb,!inB)) (by rw[aM,vq,aB]) ?_;exact fin _ _ (by simp) (by simp)
    |false=>
     have h1:a'=ta:=h1;rw[aG rfl]at h2;subst h1;subst h2;refine IT (x:=true) (by rw[lS,MJ];simp) ?_;rw[aM];refine IT (x:=false) ?_ ?_
     ·rw[yd,aQ]
      cases a' with
      |nil=>rfl
      |cons y a''=>
       have:=hx y<|.inl (by simp)
       rw[lS,aM,kF,aB,kF,aB,bQ (by omega)]
     ·rw[aQ];refine IT (x:=x) (by rw[kF,aB]) ?_;refine IT (x:=false) ?_ ?_
      ·cases a' with
       |nil=>rfl
       |cons y a''=>
        have:=hx y<|.inl (by simp)
        rw[lS,aM,kF,aB,show(y==x)=false by rw[beq_eq_false_iff_ne];omega]
      ·refine IT (x:=(a',inA)) (by rw[aQ]) ?_;refine IT (x:=true) (by rw[lS,aM,kF,aB];simp) ?_;refine IT (x:=(tb,!inB)) (by rw[aM,vq,aB]) ?_;exact fin _ _ (by simp) (by simp)
  ·have ea:a'= []:=Classical.byContradiction λh=>hne<|.inl h
   have eb:b'= []:=Classical.byContradiction λh=>hne<|.inr h
   subst ea;subst eb;refine IT (x:=false) rfl ?_;refine Tu ⟨I.inc,?_,λx=>?_,λc hc=>?_⟩
   ·have h1:=I.ea;have h2:=I.eb;rw[qm]at h1 h2;have h3:Km out=false:=by
     rw[<-I.oo,I.ok,I.oa,I.ob,<-h1,<-h2];unfold Km;rw[hae,hbe];exact hk
    unfold Km at h3;rw[beq_eq_false_iff_ne]at h3;dsimp only;omega
   ·have:=I.QG x (λd hd=>by rcases hd with h|h <;> cases h);have h1:=I.ea;have h2:=I.eb;rw[qm]at h1 h2;rw[h1,h2];exact this
   ·have h1:=I.ea;have h2:=I.eb;rw[qm]at h1 h2;rw[h1,h2];exact I.mem c hc
 ·exact⟨[],[],rfl,rfl,rfl,rfl,rfl,hk.symm,λc hc=>(by rcases hc with h|h|h <;> cases h),kH,λx _=>hk.symm,λc hc=>(by cases hc),cH _⟩
 ·rintro o ho;exact Tv ho (λs h=>SR h)<|λr=>r.elim
theorem fF.app{s t:List Bd}(h:fF (s++t)):fF t:=⟨λb hb=>h.each b<|List.mem_append_right _ hb,(List.pairwise_append.1 h.ord).2.1⟩
theorem fF.low{b:Bd}{s:List Bd}(h:fF (b::s)):∀c∈b::s,b.y0<=c.y0:=λc hc=>by
 rcases eF.1 hc with rfl|hc
 ·exact Int.le_refl _
 ·have:=h.Df c hc;have:=(h.each b (by simp)).1;omega
theorem fF.high{s:List Bd}{b:Bd}(h:fF (s++[b])):∀c∈s++[b],c.y1<=b.y1:=λc hc=>by
 rcases dD.1 hc with hc|hc
 ·have:=((List.pairwise_append.1 h.ord).2.2 c hc b (by simp)).1;have:=(h.each b (by simp)).1;omega
 ·simp at hc;subst hc;exact Int.le_refl _
def H2(s:List aA)(y e:Int):List Int×Int:=match s with
 | []=>([],e)
 |b::_=>if y<b.Y0 then([],if b.Y0<e then b.Y0 else e)else(b.Xs,if b.Y1<e then b.Y1 else e)
theorem LC{α:Type}(x:α)(l:List α):idx (x::l) 0=some x:=rfl
theorem NP(s:List aA)(y e:Int):oE N s y e=some (H2 s y e):=by
 unfold oE H2
 cases s with
 |nil=>rfl
 |cons b s=>
  grind [yd,LC,aB,bO,bQ]
theorem Jz{s:List aA}{y e:Int}{X Y:List Int}(hc:fF (s.map cG))(hl:zD X Y (s.map cG))(hh:∀b t,s=b::t->y<b.Y1)(hy:y<e):
  y<(H2 s y e).2/\(H2 s y e).2<=e/\(∀y',y<=y'->y'<(H2 s y e).2->rowAt (s.map cG) y'=(H2 s y e).1)/\j7 (H2 s y e).1/\(H2 s y e).1.length % 2=0/\((H2 s y e).2=e\/(H2 s y e).2∈Y)/\∀c∈(H2 s y e).1,c∈X:=by
 cases s with
 |nil=>exact⟨hy,Int.le_refl _,λy' _ _=>rfl,kH,rfl, .inl rfl,λc hc=>(by cases hc)⟩
 |cons b t=>
  have hb:=hc.each (cG b) (by simp);have hlb:=hl (cG b) (by simp);have h1:=hh b t rfl;unfold H2;dsimp only
  by_cases h:y<b.Y0
  ·rw[aG h];dsimp only;refine⟨by omega,by omega,λy' h2 h3=>?_,kH,rfl,?_,λc hc=>(by cases hc)⟩
   ·exact hc.x9 (by show y'<b.Y0;omega)
   ·split
    ·exact .inr hlb.1
    omega
  grind [fF.n9,cG]
theorem EX{y:Int}{a:List aA}(hN:a.length<N){body:List aA->Option (Fl (List aA) Empty)}
  (hb:body=λ(s373:List aA)=>((bif decide ((s373.length:Int)>0)then((idx s373 0).bind λx407=>some<|decide<|x407.Y1<=y)else some false).bind λs405=>bif s405 then((uj s373 1 (s373.length:Int)).bind λx410=>some<|.nx x410)else(some<|.br s373):Option (Fl (List aA) Empty))):
  Ok (jg body N a) (QD (λa'=>∃p,a=p++a'/\(∀c∈p,c.Y1<=y)/\∀b t,a'=b::t->y<b.Y1)<|λ_=>True):=by
 subst hb;refine T4 (λa'=>∃p,a=p++a'/\∀c∈p,c.Y1<=y) List.length ?_ ⟨[],rfl,λc hc=>(by cases hc)⟩ hN;rintro a'⟨p,e,hp⟩
 cases a' with
 |nil=>simp_all[IT,Tu]
 |cons b t=>
  refine IT (x:=decide<|b.Y1<=y) (by rw[lS,aM,LC,aB]) ?_;refine Tx (λh=>?_)<|λh=>Tu ⟨p,e,hp,λb' t' h'=>?_⟩
  ·have h:=of_decide_eq_true h;refine IT (vq b t)<|Tk ⟨⟨p++[b],by rw[e];simp,λc hc=>?_⟩,by simp⟩
   grind
  grind
theorem Hk{p a':List Bd}{y y':Int}(hp:∀c∈p,c.y1<=y)(h:y<=y'):rowAt (p++a') y'=rowAt a' y':=by
 grind [sL]
structure FR (iC:Bool->Bool->Bool) (X Y:List Int) (a b s:List aA):Prop where
 can:fF (s.map cG)
 cover:∀x y,wX (s.map cG) x y=iC (wX (a.map cG) x y) (wX (b.map cG) x y)
 lim:zD X Y (s.map cG)
theorem Dr{s:List aA}(hs:s≠[])(hl:s.length<=1099511627776)(hc:fF (s.map cG)):∃f l,idx s 0=some f/\idx s (wrap .i64<|((s.length:Nat):Int) - 1)=some l/\f∈s/\l∈s/\∀c∈s,f.Y0<=c.Y0/\c.Y1<=l.Y1:=by
 cases s with
 |nil=>grind
 |cons f t=>
  rw[ja (by simp) (by omega)];have hlt:(f::t).length - 1<(f::t).length:=by simp
  refine⟨f,(f::t)[(f::t).length - 1],rfl,l6 _ _ hlt,by simp,cL _,λc hcm=>⟨?_,?_⟩⟩
  ·exact hc.low (cG c)<|dV.2 ⟨c,hcm,rfl⟩
  ·have e:(f::t)=(f::t).dropLast++[(f::t)[(f::t).length - 1]]:=by
    grind [List.dropLast_concat_getLast]
   generalize (f::t)[(f::t).length - 1]=l at e;have hc2:=hc;rw[e,fO]at hc2;have hm:cG c∈(List.map cG (f::t).dropLast++[cG l]):=by
    grind
   exact fF.high hc2 (cG c) hm
theorem IC{φ:Bool->Bool->Option Bool}{iC:Bool->Bool->Bool}(hφ:∀p q,φ p q=some (iC p q))(hk:iC false false=false){a b:List aA}{X Y:List Int}(ca:fF (a.map cG))(cb:fF (b.map cG))
  (la:zD X Y (a.map cG)) (lb:zD X Y (b.map cG)) (hX:X.length<=1048576000) (hY:Y.length<=1048576000) (hs:∀c∈Y,small c) (hN:4398046511104<=N):Ok (rq N a b φ) (FR iC X Y a b):=by
 have tV:a.length<=Y.length:=by have:=la.len ca;grind
 have hbl:b.length<=Y.length:=by have:=lb.len cb;grind
 unfold rq;rw[wrap_add (by omega)];refine Tx (λh=>SR ?_)<|λh=>?_
 ·have h:a.length+b.length=0:=by grind
  have e1:a= []:=List.eq_nil_of_length_eq_zero (by omega);have e2:b= []:=List.eq_nil_of_length_eq_zero (by omega);subst e1;subst e2;exact⟨fF.nil,λx y=>hk.symm,λc hc=>(by cases hc)⟩
 have h0:a≠[]\/b≠[]:=by
  grind
 refine S3 (T0 (λk s=>match k with| 0=>True| 1=>a= []\/((∀c∈a,s.1<=c.Y0/\c.Y1<=s.2)/\s.1∈Y/\s.2∈Y)|_=>(∀c∈a,s.1<=c.Y0/\c.Y1<=s.2)/\(∀c∈b,s.1<=c.Y0/\c.Y1<=s.2)/\s.1∈Y/\s.2∈Y) (by simp) trivial<|λk s hk hI=>?_) ?_
 ·obtain⟨y,e⟩:=s;have hk:k=0\/k=1:=by grind
  rcases hk with rfl|rfl
  ·refine Tc (x:=a) rfl ?_
   by_cases ea:a= []
   ·grind [IT,SR]
   ·obtain⟨f,l,f1,f2,f3,f4,f5⟩:=Dr ea (by omega) ca;have hpos:decide (((a.length:Nat):Int)>0)=true:=bO (by grind);refine IT (x:=(f.Y0,l.Y1)) ?_<|SR<|.inr ⟨f5,(la _<|dV.2 ⟨f,f3,rfl⟩).1,(la _<|dV.2 ⟨l,f4,rfl⟩).2.1⟩
    grind
  ·refine Tc (x:=b) rfl ?_;have hI:a= []\/((∀c∈a,y<=c.Y0/\c.Y1<=e)/\y∈Y/\e∈Y):=hI
   by_cases eb:b= []
   ·subst eb;refine IT (x:=(y,e)) rfl<|SR ?_
    rcases hI with h|⟨h1,h2,h3⟩
    ·rcases h0 with h'|h'
     ·exact absurd h h'
     ·exact absurd rfl h'
    ·exact⟨h1,λc hc=>(by cases hc),h2,h3⟩
   ·obtain⟨f,l,f1,f2,f3,f4,f5⟩:=Dr eb (by omega) cb;have hpos:decide (((b.length:Nat):Int)>0)=true:=bO (by have:=List.length_pos_iff.2 eb;omega);have g1:f.Y0∈Y:=(lb _<|dV.2 ⟨f,f3,rfl⟩).1;have g2:l.Y1∈Y:=(lb _<|dV.2 ⟨l,f4,rfl⟩).2.1
    by_cases ea:a= []
    ·subst ea;refine IT (x:=(f.Y0,l.Y1)) ?_<|SR ⟨λc hc=>(by cases hc),f5,g1,g2⟩
     rw[hpos,aM];show((some true).bind _)=_;rw[aB,aM,f1,aB,f2,aB,aB,aB,aB];simp
    ·obtain⟨h1,h2,h3⟩:=hI.resolve_left ea;refine IT (x:=(if f.Y0<y then f.Y0 else y,if e<l.Y1 then l.Y1 else e)) ?_<|SR ⟨λc hc=>?_,λc hc=>?_,?_,?_⟩
     ·rw[hpos,aM];have ez:(((a.length:Nat):Int)==0)=false:=by rw[beq_eq_false_iff_ne];have:=List.length_pos_iff.2 ea;omega
      rw[ez];show((some false).bind _)=_;rw[aB,aQ,aB,f1,aB,f2,aB]
     ·have:=h1 c hc;dsimp only;split <;> split <;> omega
     ·have:=f5 c hc;dsimp only;split <;> split <;> omega
     ·dsimp only;split
      ·exact g1
      ·exact h2
     ·dsimp only;split
      ·exact g2
      ·exact h3
 ·rintro⟨y0,e0⟩hI;have hI:(∀c∈a,y0<=c.Y0/\c.Y1<=e0)/\(∀c∈b,y0<=c.Y0/\c.Y1<=e0)/\y0∈Y/\e0∈Y:=hI;obtain⟨ia,ib,iy,ie⟩:=hI;have sy:=hs _ iy;have se:=hs _ ie;unfold small at sy se;dsimp only
  refine S3 (T4 (Go:=λs=>FR iC X Y a b s.2.2.1) (Rt:=λ_=>True)
   (λs=>∃pa pb,a=pa++s.1/\b=pb++s.2.1/\(∀c∈pa,c.Y1<=s.2.2.2)/\(∀c∈pb,c.Y1<=s.2.2.2)/\y0<=s.2.2.2/\s.2.2.2<=max y0 e0/\s.2.2.2∈Y/\fF (s.2.2.1.map cG)/\zD X Y (s.2.2.1.map cG)/\(∀c∈s.2.2.1,c.Y1<=s.2.2.2)/\
    ∀x y,wX (s.2.2.1.map cG) x y=(iC (wX (a.map cG) x y) (wX (b.map cG) x y)&&decide (y<s.2.2.2)))
   (λs=>(e0 - s.2.2.2).toNat) ?_ ?_ (by dsimp only;omega)) ?_
  ·rintro⟨a',b',out,y⟩⟨pa,pb,ea,eb,hpa,hpb,hy0,hye,hyY,hcan,hlim,htop,hcov⟩;dsimp only at ea eb hpa hpb hy0 hye hyY hcan hlim htop hcov ⊢;refine Tx (λh=>?_)<|λh=>Tu ?_
   ·have hlt:y<e0:=of_decide_eq_true h;have hsl:∀(p s t:List aA),t=p++s->s.length<=t.length:=λp s t e=>by rw[e];simp
    have hal':=hsl _ _ _ ea;have hbl':=hsl _ _ _ eb;refine S3 (EX (y:=y) (a:=a') (by omega) rfl)<|λo ho=>Tv ho ?_<|λr=>r.elim
    rintro a2⟨qa,ea2,hqa,hha⟩;refine S3 (EX (y:=y) (a:=b') (by omega) rfl)<|λo ho=>Tv ho ?_<|λr=>r.elim
    rintro b2⟨qb,eb2,hqb,hhb⟩;have ea3:a=(pa++qa)++a2:=by rw[ea,ea2];simp
    have eb3:b=(pb++qb)++b2:=by rw[eb,eb2];simp
    have hPa:∀c∈pa++qa,c.Y1<=y:=λc hc=>by rcases dD.1 hc with h|h;exact hpa c h;exact hqa c h
    have hPb:∀c∈pb++qb,c.Y1<=y:=λc hc=>by rcases dD.1 hc with h|h;exact hpb c h;exact hqb c h
    have ca2:fF (a2.map cG):=by have:=ca;rw[ea3,fO]at this;exact this.app
    have cb2:fF (b2.map cG):=by have:=cb;rw[eb3,fO]at this;exact this.app
    have la2:zD X Y (a2.map cG):=λc hc=>la c (by rw[ea3,fO];exact List.mem_append_right _ hc);have lb2:zD X Y (b2.map cG):=λc hc=>lb c (by rw[eb3,fO];exact List.mem_append_right _ hc);refine IT (NP a2 y e0)<|IT (NP b2 y e0) ?_
    obtain⟨a1,a3,a4,a5,a6,a7,a8⟩:=Jz ca2 la2 hha hlt;obtain⟨b1,b3,b4,b5,b6,b7,b8⟩:=Jz cb2 lb2 hhb hlt;have hal2:(H2 a2 y e0).1.length<=X.length:=gu a5.nodup a8;have hbl2:(H2 b2 y e0).1.length<=X.length:=gu b5.nodup b8;generalize H2 a2 y e0=pa2 at *;generalize H2 b2 y e0=pb2 at *;obtain⟨xa,n⟩:=pa2;obtain⟨xb,m⟩:=pb2;dsimp only at *;refine S3 (Kn hφ hk a5 b5 a6 b6 (by omega) (by omega) (by omega)) ?_;rintro row⟨r1,r2,r3,r4⟩;have hnx:∃nx,nx=(if m<n then m else n)/\y<nx/\nx<=e0/\nx<=n/\nx<=m/\nx∈Y:=by
     refine⟨_,rfl,by split <;> omega,by split <;> omega,by split <;> omega,by split <;> omega,?_⟩;split
     ·rcases b7 with h|h
      ·rw[h];exact ie
      ·exact h
     ·rcases a7 with h|h
      ·rw[h];exact ie
      ·exact h
    obtain⟨nx,hnx,n1,n2,n3,n4,n5⟩:=hnx;rw[<-hnx];have hol:out.length<=Y.length:=by have:=hlim.len hcan;rwa[dU]at this
    obtain⟨out',p1,p2⟩:=Jx (N:=N) (s:=out) (b:=⟨y,nx,row⟩) (by omega) (λc hc=>by
     have:=hlim.row hcan (b:=cG c)<|dV.2 ⟨c,hc,rfl⟩
     have e:(cG c).xs=c.Xs:=rfl
     rw[e]at this;omega)
    refine IT p1 ?_;have htop':∀c∈out.map cG,c.y1<=(cG ⟨y,nx,row⟩).y0:=λc hc=>by
     obtain⟨d,hd,rfl⟩:=dV.1 hc;exact htop d hd
    refine Tk ⟨⟨pa++qa,pb++qb,ea3,eb3,λc hc=>by have:=hPa c hc;dsimp only;omega,λc hc=>by have:=hPb c hc;dsimp only;omega,by dsimp only;omega,by dsimp only;omega,n5,by dsimp only;rw[p2];exact yb hcan htop' r1 r2,?_,λc hc=>?_,λx y'=>?_⟩,by dsimp only;omega⟩
    ·dsimp only;rw[p2];refine hlim.push hyY n5<|λc hc=>?_
     rcases r4 c hc with h|h
     ·exact a8 c h
     ·exact b8 c h
    ·have hm':cG c∈ko (out.map cG) (cG ⟨y,nx,row⟩):=by rw[<-p2];exact dV.2 ⟨c,hc,rfl⟩
     exact yc htop' (by show y<=nx;omega) _ hm'
    ·show qJ (rowAt (out'.map cG) y') x=_;rw[p2,ya htop' (λc hc=>(hcan.each c hc).1)<|λh=>absurd h (by show ¬nx<=y;omega)]
     by_cases hyy:y<=y'/\y'<nx
     ·rw[aG (show(cG ⟨y,nx,row⟩).y0<=y'/\y'<(cG ⟨y,nx,row⟩).y1 from hyy),bO hyy.2,Bool.and_true];show qJ row x=_;have mp:∀p q:List aA,(∀c∈p++q,c.Y1<=y)->∀c∈(p++q).map cG,c.y1<=y:=λp q h c hc=>by
       obtain⟨d,hd,rfl⟩:=dV.1 hc;exact h d hd
      have q1:wX (a.map cG) x y'=qJ xa x:=by
       unfold wX;rw[ea3,fO,Hk (mp _ _ hPa) hyy.1,a4 y' hyy.1 (by omega)]
      have q2:wX (b.map cG) x y'=qJ xb x:=by
       unfold wX;rw[eb3,fO,Hk (mp _ _ hPb) hyy.1,b4 y' hyy.1 (by omega)]
      rw[r3,q1,q2]
     ·rw[aI (show ¬((cG ⟨y,nx,row⟩).y0<=y'/\y'<(cG ⟨y,nx,row⟩).y1)from hyy)];show wX (out.map cG) x y'=_;rw[hcov]
      by_cases h1:y'<y
      ·rw[bO h1,bO (show y'<nx by omega)]
      ·rw[bQ h1,bQ (show ¬y'<nx by omega)]
   ·have hge:e0<=y:=by have:=of_decide_eq_false h;omega
    refine⟨hcan,λx y'=>?_,hlim⟩;dsimp only;rw[hcov]
    by_cases h1:y'<y
    ·rw[bO h1,Bool.and_true]
    ·have z:∀s:List aA,(∀c∈s,y0<=c.Y0/\c.Y1<=e0)->wX (s.map cG) x y'=false:=λs h=>by
      unfold wX;rw[mG λc hc=>?_]
      ·rfl
      ·obtain⟨d,hd,rfl⟩:=dV.1 hc;exact .inr (by have:=(h d hd).2;show d.Y1<=y';omega)
     rw[z a ia,z b ib,hk];rfl
  ·refine⟨[],[],rfl,rfl,λc hc=>(by cases hc),λc hc=>(by cases hc),Int.le_refl _,by dsimp only;omega,iy,fF.nil,λc hc=>(by cases hc),λc hc=>(by cases hc),λx y=>?_⟩;dsimp only;show false=_
   by_cases h1:y<y0
   ·have z:∀s:List aA,(∀c∈s,y0<=c.Y0/\c.Y1<=e0)->wX (s.map cG) x y=false:=λs h=>by
     unfold wX;rw[mG λc hc=>?_]
     ·rfl
     ·obtain⟨d,hd,rfl⟩:=dV.1 hc;exact .inl (by have:=(h d hd).1;show y<d.Y0;omega)
    rw[z a ia,z b ib,hk];rfl
   ·rw[bQ h1,Bool.and_false]
  ·rintro o ho;exact Tv ho (λs h=>SR h)<|λr=>r.elim
theorem Ko{a b:List aA}{X Y:List Int}(ca:fF (a.map cG))(cb:fF (b.map cG))(la:zD X Y (a.map cG))(lb:zD X Y (b.map cG))(hX:X.length<=1048576000)(hY:Y.length<=1048576000)(hs:∀c∈Y,small c)(hN:4398046511104<=N):
  Ok (mc N a b) (FR (λp q=>p&& !q) X Y a b):=by
 unfold mc;exact S3 (IC (iC:=λp q=>p&& !q) (λp q=>rfl) rfl ca cb la lb hX hY hs hN)<|λs h=>SR h
end
section
variable {N:Nat}
structure UF (n:Nat) (up:List Int) (r:Nat->Nat):Prop where
 len:up.length=n
 rt:∀i,i<n->∃u:Nat,up[i]? =some ((u:Nat):Int)/\u<=i/\r u=r i/\(u=i↔r i=i)
theorem UF.le{n:Nat}{up:List Int}{r:Nat->Nat}(h:UF n up r):∀i,i<n->r i<=i:=by
 intro i
 induction i using Nat.strongRecOn with
 |ind i ih=>
  intro hi;obtain⟨u,_,h2,h3,h4⟩:=h.rt i hi
  grind
theorem UF.rr{n:Nat}{up:List Int}{r:Nat->Nat}(h:UF n up r):∀i,i<n->r (r i)=r i:=by
 intro i
 induction i using Nat.strongRecOn with
 |ind i ih=>
  intro hi;obtain⟨u,_,h2,h3,h4⟩:=h.rt i hi
  grind
theorem qH{l:List Int}{j:Nat}{v:Int}{i:Nat}(hj:j<l.length):(l.set j v)[i]? =if i=j then some v else l[i]? :=by
 grind
theorem UF.init(n:Nat)(up:List Int)(h1:up.length=n)(h2:∀i,i<n->up[i]? =some ((i:Nat):Int)):UF n up (λi=>i):=
 ⟨h1,λi hi=>⟨i,h2 i hi,cH _,rfl,by simp⟩⟩
theorem xG{n:Nat}(hn:n<=1048576000):∃up,kR N ((n:Nat):Int)=some up/\UF n up (λi=>i):=by
 unfold kR;rw[pD 0 (by omega),aB];have h0:(List.replicate n (0:Int)).length=n:=by simp
 obtain⟨s',h1,h2⟩:=Cz (m:=(List.replicate n (0:Int)).length) (s:=List.replicate n (0:Int)) (body:=λ(k34:Nat)(s35:List Int)=>((idx s35 (k34:Int)).bind λx38=>some (s35.set (Int.toNat (k34:Int)) (k34:Int)):Option (List Int)))
  (λk s=>s.length=n/\∀i,i<k->s[i]? =some ((i:Nat):Int)) (by omega) ⟨h0,λi hi=>by omega⟩ (λk s hk⟨hs,hi⟩=>by
   grind [l6,aB,cI,qH])
 grind [aB,UF.init]
theorem r6{n:Nat}{up:List Int}{r:Nat->Nat}(h:UF n up r){i:Nat}(hi:i<n)(hn:n<N):∃up',fu N up ((i:Nat):Int)=some (((r i:Nat):Int),up')/\UF n up' r:=by
 unfold fu;obtain⟨o,h1,h2⟩:=Ag (R:=Empty) (body:=λ(s32:List Int×Int)=>((idx s32.1 s32.2).bind λx43=>bif x43 != s32.2 then((idx s32.1 s32.2).bind λx44=>(idx s32.1 x44).bind λx45=>(idx s32.1 s32.2).bind λx46=>(idx (s32.1.set (Int.toNat s32.2) x45) s32.2).bind λx47=>some<|.nx (s32.1.set (Int.toNat s32.2) x45,x47))else(some<|.br (s32.1,s32.2)):Option (Fl (List Int×Int) Empty)))
  (λs=>UF n s.1 r/\∃j:Nat,s.2=((j:Nat):Int)/\j<n/\r j=r i) (λs=>s.2.toNat) (λs=>s.2=((r i:Nat):Int)/\UF n s.1 r) (λ_=>True) (λs⟨hu,j,hj,hjn,hr⟩=>by
   obtain⟨l,y⟩:=s;dsimp only at hu hj ⊢;subst hj;obtain⟨u,a1,a2,a3,a4⟩:=hu.rt j hjn;rw[cC a1,aB]
   by_cases e:u=j
   ·simp_all
   ·obtain⟨v,b1,b2,b3,b4⟩:=hu.rt u (by omega);have hl:=hu.len
    refine⟨.nx (l.set j ((v:Nat):Int),((v:Nat):Int)),by
     grind [aB,cC,cI,qH],⟨⟨by simp[hl],λk hk=>?_⟩,v,rfl,by omega,?_⟩,?_⟩
    ·rw[qH (by omega)]
     by_cases e2:k=j
     ·grind
     ·rw[aI e2];exact hu.rt k hk
    ·omega
    omega)
  N (up,((i:Nat):Int)) ⟨h,i,rfl,hi,rfl⟩ (by omega)
 rw[h1,aB]
 cases o with
 |go s'=>exact⟨s'.1,by rw[<-h2.1];rfl,h2.2⟩
 |rt r=>exact r.elim
def r8(r:Nat->Nat)(a b:Nat):Nat->Nat:=λx=>if r x=max a b then min a b else r x
theorem LD(a b:Nat):(if((a:Nat):Int)<((b:Nat):Int)then((b:Nat):Int)else((a:Nat):Int))=((max a b:Nat):Int):=by
 omega
theorem LF(a b:Nat):(if((b:Nat):Int)<((a:Nat):Int)then((b:Nat):Int)else((a:Nat):Int))=((min a b:Nat):Int):=by
 omega
theorem JA{n:Nat}{up:List Int}{r:Nat->Nat}(h:UF n up r){i k:Nat}(hi:i<n)(hk:k<n)(hn:n<N):
  ∃up',fC N up ((i:Nat):Int) ((k:Nat):Int)=some up'/\UF n up' (r8 r (r i)<|r k):=by
 obtain⟨u1,a1,a2⟩:=r6 h hi hn;obtain⟨u2,b1,b2⟩:=r6 a2 hk hn;have hri:=h.le i hi;have hrk:=h.le k hk;have rri:=h.rr i hi;have rrk:=h.rr k hk;unfold fC;rw[a1,aB,b1,aB];dsimp only;rw[LD,LF];have hm:max (r i) (r k)<n:=by omega
 have hl:=b2.len;rw[l6 _ _ (by omega),aB,cI];refine⟨_,rfl,by simp[hl],λx hx=>?_⟩;have rmax:r (max (r i)<|r k)=max (r i) (r k):=by grind
 have rmin:r (min (r i)<|r k)=min (r i) (r k):=by grind
 rw[qH (by omega)]
 by_cases e:x=max (r i) (r k)
 ·grind [Min.min,r8]
 ·rw[aI e];obtain⟨u,c1,c2,c3,c4⟩:=b2.rt x hx
  grind [r8,Min.min,Max.max]
def ny(r:Nat->Nat)(E:List (Nat×Nat)):Prop:=∀p∈E,r p.1=r p.2
def wU(n:Nat)(r:Nat->Nat)(E:List (Nat×Nat)):Prop:=∀S:Nat->Prop,(∀p∈E,S p.1↔S p.2)->∀i j,i<n->j<n->r i=r j->S i->S j
theorem ny.join{r:Nat->Nat}{E:List (Nat×Nat)}(h:ny r E)(i k:Nat)(_h2:r (r i)=r i):ny (r8 r (r i)<|r k) (E++[(i,k)]):=λp hp=>by
 rcases dD.1 hp with hp|hp
 ·unfold r8;rw[h p hp]
 ·simp at hp;subst hp;unfold r8;dsimp only;split <;> split <;> omega
theorem wU.join{n:Nat}{r:Nat->Nat}{E:List (Nat×Nat)}(h:wU n r E){i k:Nat}(hi:i<n)(hk:k<n):wU n (r8 r (r i)<|r k) (E++[(i,k)]):=λS hS x y hx hy hr hSx=>by
 have hE:∀p∈E,S p.1↔S p.2:=λp hp=>hS p<|List.mem_append_left _ hp
 have hik:S i↔S k:=hS (i,k) (by simp);have key:=h S hE;unfold r8 at hr
 by_cases h1:r x=r y
 ·exact key x y hx hy h1 hSx
 ·have:(r x=r i/\r y=r k)\/(r x=r k/\r y=r i):=by
   split at hr <;> split at hr <;> omega
  rcases this with⟨e1,e2⟩|⟨e1,e2⟩
  ·exact key k y hk hy e2.symm<|hik.1<|key x i hx hi e1 hSx
  ·exact key i y hi hy e2.symm<|hik.2<|key x k hx hk e1 hSx
theorem wU.id(n:Nat):wU n (λi=>i) []:=λS _ i j _ _ h hs=>by
 have h:i=j:=h;subst h;exact hs
theorem ny.id:ny (λi=>i) []:=λp hp=>by simp at hp
def bV(n:Nat)(r:Nat->Nat):List Nat:=(List.range n).filter<|λk=>decide<|r k=k
def cls(n:Nat)(r:Nat->Nat)(k:Nat):List Nat:=(List.range n).filter<|λi=>decide<|r i=k
theorem g9(n:Nat)(r:Nat->Nat):bV (n+1) r=if r n=n then bV n r++[n]else bV n r:=by
 grind [bV,List.range_succ]
theorem xH(n:Nat)(r:Nat->Nat)(k:Nat):cls (n+1) r k=if r n=k then cls n r k++[n]else cls n r k:=by
 grind [cls,List.range_succ]
theorem mm(n:Nat)(r:Nat->Nat):(bV n r).length<=n:=by
 have:=rf (λk=>decide<|r k=k)<|List.range n
 rw[List.length_range]at this;exact this
theorem CC(n:Nat)(r:Nat->Nat)(k:Nat):(cls n r k).length<=n:=by
 have:=rf (λi=>decide<|r i=k)<|List.range n
 rw[List.length_range]at this;exact this
theorem jV{n k:Nat}{r:Nat->Nat}:k∈bV n r↔k<n/\r k=k:=by simp[bV]
theorem oh(n:Nat)(r:Nat->Nat):(bV n r).Nodup:=List.Nodup.sublist List.filter_sublist List.nodup_range
def tC(n:Nat)(r:Nat->Nat):List (List Int):=(bV n r).map<|λk=>(cls n r k).map<|λi=>((i:Nat):Int)
theorem JB{n k:Nat}{r:Nat->Nat}(h:∀i,i<n->r i<=i)(hk:n<=k):cls n r k= []:=by
 grind [cls,List.filter_eq_nil_iff]
theorem xI{α β:Type}(f g:α->β)(l:List α)(j:Nat)(a:α)(hn:l.Nodup)(hj:l[j]? =some a)(hf:∀b,b∈l->b≠a->f b=g b):(l.map f).set j (g a)=l.map g:=by
 apply List.ext_getElem?;intro i;have hjl:=(bN.1 hj).1;rw[ln,dU,jD,jD]
 grind [bN,List.getElem_inj,fQ]
def QH(n:Nat)(r:Nat->Nat)(m:List (Int×Int)):Prop:=∀(j k:Nat),(bV n r)[j]? =some k->fB m ((k:Nat):Int) 0=((j:Nat):Int)
theorem MT{n:Nat}{up:List Int}{r:Nat->Nat}(h:UF n up r)(hn:n<N)(hn2:n<=1048576000):∃up',k7 N up=some (tC n r,up')/\UF n up' r:=by
 unfold k7;have hlen:=h.len;have hle:=h.le;have hrr:=h.rr;obtain⟨s',h1,h2⟩:=Cz (m:=up.length) (s:=(up,([]:List (List Int)),([]:List (Int×Int))))
  (body:=λ(k32:Nat)(s33:List Int×List (List Int)×List (Int×Int))=>((fu N s33.1 (k32:Int)).bind λx117=>(bif x117.1==(k32:Int)then((app 24 s33.2.1 [([]:List Int)]).bind λx126=>some (x126,rp s33.2.2 (k32:Int) (s33.2.1.length:Int)))else some (s33.2.1,s33.2.2)).bind λs122=>(idx s122.1<|fB s122.2 x117.1 (0:Int)).bind λx128=>(app 8 x128 ([(k32:Int)]:List Int)).bind λx134=>(idx s122.1<|fB s122.2 x117.1 (0:Int)).bind λx136=>some (x117.2,s122.1.set (Int.toNat<|fB s122.2 x117.1 (0:Int)) x134,s122.2):Option (List Int×List (List Int)×List (Int×Int))))
  (λk s=>UF n s.1 r/\s.2.1=tC k r/\QH k r s.2.2) (by omega) ⟨h,rfl,λj k hj=>by grind [bV]⟩ (λk s hk⟨hu,hs,hm⟩=>by
   obtain⟨l,ss,m⟩:=s;dsimp only at hu hs hm ⊢;subst hs;rw[hlen]at hk;obtain⟨u',a1,a2⟩:=r6 hu hk hn;rw[a1,aB];dsimp only;have hhl:=mm k r;have hsl:(tC k r).length=(bV k r).length:=by simp[tC]
   have hrk:=hle k hk
   by_cases e:r k=k
   ·
    rw[show(((r k:Nat):Int)==((k:Nat):Int))=true by rw[e];simp,aM,lf (by grind),aB,aB];dsimp only;rw[e,lI,aG rfl,hsl];have hi:(tC k r++[([]:List Int)])[(bV k r).length]? =some []:=by grind
    rw[cC hi,aB,lf (by simp),aB,aB,cI];refine⟨_,rfl,a2,?_,λj q hj=>?_⟩
    ·dsimp only;rw[<-hsl,List.set_append_right _ _<|cH _,Nat.sub_self];unfold tC;rw[g9,aG e,fO];congr 1
     ·grind [List.map_congr_left,jV,xH]
     grind [xH,JB,hle]
    ·dsimp only;rw[g9,aG e]at hj;rw[lI]
     by_cases e2:j<(bV k r).length
     ·rw[jB e2]at hj;have:=(jV.1<|fQ hj).1;rw[aI (by omega)];exact hm j q hj
     ·rw[jC (by omega)]at hj;have hj0:j -(bV k r).length=0:=by
       have:=(bN.1 hj).1;simp at this;omega
      rw[hj0]at hj;simp at hj;subst hj;rw[aG rfl];congr 1;omega
   ·rw[show(((r k:Nat):Int)==((k:Nat):Int))=false by simp;omega,aQ,aB];dsimp only;have hh:r k∈bV k r:=jV.2 ⟨by omega,hrr k hk⟩;obtain⟨j,hj⟩:=dW hh;rw[hm j (r k) hj];have hcl:=CC k r<|r k
    have hi:(tC k r)[j]? =some ((cls k r<|r k).map<|λi=>((i:Nat):Int)):=by unfold tC;rw[jD,hj];rfl
    rw[cC hi,aB,lf (by simp;omega),aB,aB,cI];refine⟨_,rfl,a2,?_,λj' q hj'=>?_⟩
    ·unfold tC;rw[g9,aI e]
     have:=xI (λa=>(cls k r a).map (λi=>((i:Nat):Int))) (λa=>(cls (k+1) r a).map (λi=>((i:Nat):Int))) (bV k r) j (r k) (oh k r) hj (λb hb hne=>by
      rw[xH,aI (λh=>hne h.symm)])
     rw[xH,aG rfl,fO]at this;exact this
    ·rw[g9,aI e]at hj';exact hm j' q hj')
 rw[h1,aB];obtain⟨l,ss,m⟩:=s';dsimp only at h2;rw[hlen]at h2;refine⟨l,?_,h2.1⟩;rw[<-h2.2.1]
end
section
variable {N:Nat}
theorem FT{n:Nat}{up:List Int}{r:Nat->Nat}(h:UF n up r){i:Nat}(hi:i<n)(hn:n<N):∃up',ga N ((i:Nat):Int) up=some (((r i:Nat):Int),up')/\UF n up' r:=by
 unfold ga
 have:=S3 (β:=Int×List Int) (Q:=λx=>x.1=((r i:Nat):Int)/\UF n x.2 r) (T4 (body:=λ(s32:Int×(List Int))=>((idx s32.2 s32.1).bind λx43=>bif(x43 != s32.1)then((idx s32.2 s32.1).bind λx44=>(idx s32.2 x44).bind λx45=>(idx s32.2 s32.1).bind λx46=>(idx (s32.2.set (Int.toNat s32.1) x45) s32.1).bind λx47=>some (.nx (x47,(s32.2.set (Int.toNat s32.1) x45))))else(some (.br (s32.1,s32.2))):Option (Fl (Int×(List Int)) Empty)))
  (N:=N) (s:=(((i:Nat):Int),up)) (Go:=λs=>s.1=((r i:Nat):Int)/\UF n s.2 r) (Rt:=λ_=>True) (λs=>UF n s.2 r/\∃j:Nat,s.1=((j:Nat):Int)/\j<n/\r j=r i) (λs=>s.1.toNat) (by
   rintro⟨y,l⟩⟨hu,j,hj,hjn,hr⟩;dsimp only at hu hj ⊢;subst hj;obtain⟨u,a1,a2,a3,a4⟩:=hu.rt j hjn;refine Tc a1 ?_
   by_cases e:u=j
   ·grind [Tu]
   ·obtain⟨v,b1,b2,b3,b4⟩:=hu.rt u (by omega);have hl:=hu.len;rw[show(((u:Nat):Int) != ((j:Nat):Int))=true by simp;omega,aM];refine Tc a1<|Tc b1<|Tc a1<|Tc (x:=((v:Nat):Int)) (by grind)<|Tk ⟨⟨⟨by simp[hl],λk hk=>?_⟩,v,rfl,by omega,?_⟩,?_⟩
    ·rw[cI,qH (by omega)]
     by_cases e2:k=j
     ·grind
     ·rw[aI e2];exact hu.rt k hk
    ·omega
    omega)
  ⟨h,i,rfl,hi,rfl⟩ (by omega))
  (λo ho=>Tv (f:=λ(s32:Int×List Int)=>some (s32.1,s32.2)) (g:=λr:Empty=>r.elim) ho (λs h=>SR h)<|λr=>r.elim)
 obtain⟨⟨x,up'⟩,h1,h2,h3⟩:=this
 grind
theorem LG{n:Nat}{up:List Int}{r:Nat->Nat}(h:UF n up r){i k:Nat}(hi:i<n)(hk:k<n){f:List Int->Option (List Int)}(hn:n<N):
  ∃up',((ga N ((i:Nat):Int) up).bind λx840=>(ga N ((k:Nat):Int) x840.2).bind λx842=>(idx x842.2 (if x840.1<x842.1 then x842.1 else x840.1)).bind λx844=>some<|x842.2.set (Int.toNat (if x840.1<x842.1 then x842.1 else x840.1)) (if x842.1<x840.1 then x842.1 else x840.1))=some up'/\UF n up' (r8 r (r i)<|r k):=by
 obtain⟨u1,a1,a2⟩:=FT h hi hn;obtain⟨u2,b1,b2⟩:=FT a2 hk hn;obtain⟨v1,c1,c2⟩:=r6 h hi hn;have hri:=h.le i hi;have hrk:=h.le k hk;have rri:=h.rr i hi;have rrk:=h.rr k hk;rw[a1,aB,b1,aB];dsimp only;rw[LD,LF];have hm:max (r i) (r k)<n:=by omega
 have hl:=b2.len;rw[l6 _ _ (by omega),aB,cI];refine⟨_,rfl,by simp[hl],λx hx=>?_⟩;have rmax:r (max (r i)<|r k)=max (r i) (r k):=by grind
 have rmin:r (min (r i)<|r k)=min (r i) (r k):=by grind
 rw[qH (by omega)]
 by_cases e:x=max (r i) (r k)
 ·grind [Min.min,r8]
 ·rw[aI e];obtain⟨u,c1,c2,c3,c4⟩:=b2.rt x hx
  grind [r8,Max.max]
def kf(s:List aA)(k:Nat):Nat:=(aU<|s.take k).length
theorem Bn{s:List aA}{k:Nat}(h:k<s.length):kf s (k+1)=kf s k+s[k].Xs.length / 2:=by
 grind [kf,eA,pr,eL,aU,oe,q8]
theorem Bo{s:List aA}{k m:Nat}(h:k<=m):kf s k<=kf s m:=by
 unfold kf;have:=Bl (s.take m) k
 grind
theorem Hl(s:List aA):kf s s.length=(aU s).length:=by simp[kf,fG]
theorem MU{s:List aA}{k t:Nat}(h:k<s.length)(ht:2*t+1<s[k].Xs.length):(aU s)[kf s k+t]? =some ⟨s[k].Xs[2*t],s[k].Y0,s[k].Xs[2*t+1],s[k].Y1⟩:=by
 have e:aU s=aU (s.take k)++(oe s[k]++aU (s.drop<|k+1)):=by
  grind [List.take_append_drop,vG,pr,og]
 grind [kf,jC,Nat.add_sub_cancel_left,jB,q8,oe,Ax]
theorem JC{s:List aA}{i:Nat}(h:i<(aU s).length):∃k,k<s.length/\kf s k<=i/\i<kf s (k+1):=by
 have key:∀m,m<=s.length->i<kf s m->∃k,k<m/\kf s k<=i/\i<kf s (k+1):=by
  intro m
  induction m with
  |zero=>simp[kf,aU]
  |succ m ih=>
   grind
 grind [Hl]
def FU(a c:aH):Prop:=a.Y1=c.Y0/\a.X0<c.X1/\c.X0<a.X1
def AZ(all:List aH)(i j:Nat):Prop:=∃a c,all[i]? =some a/\all[j]? =some c/\FU a c
theorem ye{s:List aA}(he:∀b∈s,b.Xs.length % 2=0){k i:Nat}(hk:k<s.length)(h1:kf s k<=i)(h2:i<kf s (k+1)):∃t,i=kf s k+t/\∃h:2*t+1<s[k].Xs.length,(aU s)[i]? =some ⟨s[k].Xs[2*t],s[k].Y0,s[k].Xs[2*t+1],s[k].Y1⟩:=by
 rw[Bn hk]at h2;have:=he _<|cL hk
 refine⟨i - kf s k,by omega,by omega,?_⟩;have h3:=MU (t:=i - kf s k) hk (by omega)
 grind
theorem Ds{s:List aA}(hc:fF (s.map cG)){p q:Nat}(hp:p<s.length)(hq:q<s.length)(h:p<q):s[p].Y1<=s[q].Y0:=by
 have:=ov.1 hc.ord p q (by simp;omega) (by simp;omega) h;simp only[List.getElem_map]at this;exact this.1
theorem Dt{s:List aA}(hc:fF (s.map cG)){p:Nat}(hp:p<s.length):s[p].Y0<s[p].Y1:=(hc.each (cG s[p])<|dV.2 ⟨_,cL hp,rfl⟩).1
theorem vr{s:List aA}(hc:fF (s.map cG)):∀b∈s,b.Xs.length % 2=0:=λb hb=>(hc.each (cG b)<|dV.2 ⟨b,hb,rfl⟩).2.2.2
theorem JD{s:List aA}(hc:fF (s.map cG)):∀b∈s,j7 b.Xs:=λb hb=>(hc.each (cG b)<|dV.2 ⟨b,hb,rfl⟩).2.2.1
theorem Hm{s:List aA}(hc:fF (s.map cG)){i j q:Nat}(hq:q<s.length)(h1:kf s q<=j)(h2:j<kf s (q+1))(ht:AZ (aU s) i j):∃hq0:0<q,s[q - 1].Y1=s[q].Y0/\kf s (q - 1)<=i/\i<kf s q:=by
 obtain⟨a,c,ha,hb,e1,e2,e3⟩:=ht;obtain⟨t,e4,ht,hj⟩:=ye (vr hc) hq h1 h2;rw[hj]at hb;injection hb with hb;subst hb
 have hil:=(bN.1 ha).1;obtain⟨p,hp,p1,p2⟩:=JC hil;obtain⟨u,e5,hu,hi⟩:=ye (vr hc) hp p1 p2;rw[hi]at ha;injection ha with ha;subst ha
 have e1:s[p].Y1=s[q].Y0:=e1;have hpp:=Dt hc hp;have hqq:=Dt hc hq;have hpq:p+1=q:=by
  rcases Nat.lt_trichotomy p q with h|h|h
  ·by_cases h':p+1=q
   ·exact h'
   ·have h3:=Ds hc hp (show p+1<s.length by omega) (by omega);have h4:=Ds hc (show p+1<s.length by omega) hq (by omega);have h5:=Dt hc (show p+1<s.length by omega);omega
  ·grind
  ·have:=Ds hc hq hp h;omega
 grind
structure PJ (all:List aH) (n:Nat) (up:List Int) (r:Nat->Nat) (E:List (Nat×Nat)):Prop where
 uf:UF n up r
 co:ny r E
 fi:wU n r E
 so:∀p∈E,AZ all p.1 p.2
theorem PJ.join{all:List aH}{n:Nat}{up up':List Int}{r:Nat->Nat}{E:List (Nat×Nat)}(h:PJ all n up r E){i j:Nat}(hi:i<n)(hj:j<n)(hu:UF n up' (r8 r (r i)<|r j))(ht:AZ all i j):PJ all n up' (r8 r (r i)<|r j) (E++[(i,j)]):=
 ⟨hu,h.co.join i j (h.uf.rr i hi),h.fi.join hi hj,λp hp=>by
  rcases dD.1 hp with hp|hp
  ·exact h.so p hp
  grind⟩
structure Joined (all:List aH) (r:Nat->Nat):Prop where
 le:∀i,i<all.length->r i<=i
 rr:∀i,i<all.length->r (r i)=r i
 co:∀i j,AZ all i j->r i=r j
 fi:∀S:Nat->Prop,(∀i j,AZ all i j->(S i↔S j))->∀i j,i<all.length->j<all.length->r i=r j->S i->S j
def oX(all:List aH)(n:Nat)(r:Nat->Nat)(h:Nat):List aH:=(cls n r h).filterMap<|λi=>all[i]?
theorem Du(all:List aH)(n:Nat)(r:Nat->Nat)(h:Nat):(oX all n r h).length<=n:=by
 grind [List.length_filterMap_le,cls,CC,oX]
theorem yf{all:List aH}{n:Nat}{r:Nat->Nat}(h:Nat){x:aH}(hx:all[n]? =some x):oX all (n+1) r h=if r n=h then oX all n r h++[x]else oX all n r h:=by
 grind [oX,xH]
theorem mV{all:List aH}{n:Nat}{r:Nat->Nat}{h:Nat}{x:aH}:x∈oX all n r h↔∃i,i<n/\r i=h/\all[i]? =some x:=by
 unfold oX cls
 grind
structure t8 (s:List aA) (r:Nat->Nat) (ps:List (List aA)):Prop where
 join:Joined (aU s) r
 len:ps.length=(bV (aU s).length r).length
 each:∀(j h:Nat)(p:List aA),(bV (aU s).length r)[j]? =some h->ps[j]? =some p->tB (oX (aU s) (aU s).length r h) p
def So(n:Nat)(r:Nat->Nat)(m:List (Int×Int)):Prop:=(∀(j k:Nat),(bV n r)[j]? =some k->fB m ((k:Nat):Int) 0=((j:Nat):Int))/\∀k:Nat,lV m ((k:Nat):Int)=decide (k∈bV n r)
theorem ID{s:List aA}{X Y:List Int}(hc:fF (s.map cG))(hl:zD X Y (s.map cG))(hX:∀c∈X,small c)(hY:∀c∈Y,small c)(h1:s.length<=1073741824)(h2:∀b∈s,b.Xs.length<=1073741824)(h3:(aU s).length<=134217728)(hN:4398046511104<=N):
  Ok (mO N s) (λps=>∃r,t8 s r ps):=by
 unfold mO;have hev:=vr hc;have hinc:=JD hc;refine IT (Dn hev (by omega) (λb hb=>by grind) (by omega)) ?_;have hok:=Dp hc hl hX hY;have hall:kf s s.length=(aU s).length:=Hl s;generalize hn:(aU s).length=n at *;refine IT (pD 0 (by omega)) ?_;rw[show((List.replicate n (0:Int)).length)=n by simp];refine S3 (T0 (λk up=>up.length=n/\∀i,i<k->up[i]? =some ((i:Nat):Int)) (by omega) ⟨by simp,λi hi=>by omega⟩<|λk up hk hI=>?_) ?_
 ·grind [TU,SR,cI,qH]
 rintro up0⟨hu1,hu2⟩
 refine S3 (T0 (λk st=>st.2.1=((kf s k:Nat):Int)/\(0<k->st.2.2=((kf s (k - 1):Nat):Int))/\∃r E,PJ (aU s) n st.1 r E/\∀q,q<k->∀i j,kf s q<=j->j<kf s (q+1)->AZ (aU s) i j->(i,j)∈E) (by omega)
  ⟨rfl,λh=>by omega,_,_,⟨UF.init n up0 hu1 hu2,ny.id,wU.id n,λp hp=>(by cases hp)⟩,λq hq=>by omega⟩ (λk st hk hI=>?_)) ?_
 ·obtain⟨up,a,b⟩:=st;obtain⟨e1,e2,r,E,hP,hE⟩:=hI;dsimp only at e1 e2 hP ⊢;subst e1;refine TU hk ?_;have hoff:=Bn hk;have hoffle:kf s (k+1)<=n:=by rw[<-hall];exact Bo hk
  have hkm:=cL hk;have hlen:wrap .i64 (Int.tdiv ((s[k].Xs.length:Nat):Int) 2)=((s[k].Xs.length / 2:Nat):Int):=by
   grind [Int.ofNat_tdiv,Hi]
  rw[hlen,wrap_add (by omega),<-hoff];refine S3 (P:=λc=>c=true↔∃h0:0<k,s[k - 1].Y1=s[k].Y0) ?_<|λc hcc=>?_
  ·grind [SR,ja,TU,of_decide_eq_false]
  refine S3 (P:=λup'=>∃r E,PJ (aU s) n up' r E/\∀q,q<k+1->∀i j,kf s q<=j->j<kf s (q+1)->AZ (aU s) i j->(i,j)∈E) ?_<|λup' hI=>SR ⟨rfl,λ_=>rfl,hI⟩
  refine Tx (λh=>?_)<|λh=>SR ⟨r,E,hP,λq hq i j q1 q2 ht=>?_⟩
  ·obtain⟨hpos,hyy⟩:=hcc.1 h;rw[e2 hpos];have hoffp:=Bn (show k - 1<s.length by omega);rw[show k - 1+1=k by omega]at hoffp
   refine S3 (T4 (Go:=λst=>∃r E,PJ (aU s) n st.1 r E/\∀q,q<k+1->∀i j,kf s q<=j->j<kf s (q+1)->AZ (aU s) i j->(i,j)∈E) (Rt:=λ_=>True)
    (λst=>∃i j:Nat,st.2.1=((i:Nat):Int)/\st.2.2=((j:Nat):Int)/\kf s (k - 1)<=i/\i<=kf s k/\kf s k<=j/\j<=kf s (k+1)/\∃r E,PJ (aU s) n st.1 r E/\(∀q,q<k->∀i j,kf s q<=j->j<kf s (q+1)->AZ (aU s) i j->(i,j)∈E)/\
     ∀i' j',kf s (k - 1)<=i'->i'<kf s k->kf s k<=j'->j'<kf s (k+1)->(i'<i\/j'<j)->AZ (aU s) i' j'->(i',j')∈E)
    (λst=>(n - st.2.1.toNat)+(n - st.2.2.toNat)) ?_ ?_ (by simp only[cI];omega)) (λo ho=>Tv ho (λst h=>SR h) (λr=>r.elim))
   ·rintro⟨up,a,b⟩⟨i,j,e3,e4,i1,i2,j1,j2,r,E,hP,hE,hE2⟩;dsimp only at e3 e4 hP ⊢;subst e3;subst e4;refine Tx (λh=>?_)<|λh=>Tu ?_
    ·rw[cO,cP,cP]at h;have hi:i<kf s k:=by omega
     have hj:j<kf s (k+1):=by omega
     obtain⟨t,et,_,hri⟩:=ye hev (show k - 1<s.length by omega) i1 (by rw[show k - 1+1=k by omega];exact hi);obtain⟨u,eu,_,hrj⟩:=ye hev hk j1 hj;have xi:=hinc _<|cL (show k - 1<s.length by omega)
     have xj:=hinc _ hkm;have farI:∀i' a,i<i'->i'<kf s k->(aU s)[i']? =some a->s[k - 1].Xs[2*t+1]<a.X0:=λi' a h4 h5 h6=>by
      obtain⟨t',et',ht',hr'⟩:=ye hev (show k - 1<s.length by omega) (show kf s (k - 1)<=i' by omega) (by rw[show k - 1+1=k by omega];exact h5);rw[hr']at h6;injection h6 with h6;subst h6
      exact xi.lt (show 2*t+1<2*t' by omega) (aP _)<|aP _
     have farJ:∀j' a,j<j'->j'<kf s (k+1)->(aU s)[j']? =some a->s[k].Xs[2*u+1]<a.X0:=λj' a h4 h5 h6=>by
      obtain⟨u',eu',hu',hr'⟩:=ye hev hk (show kf s k<=j' by omega) h5;rw[hr']at h6;injection h6 with h6;subst h6
      exact xj.lt (show 2*u+1<2*u' by omega) (aP _)<|aP _
     refine S3 (P:=λc=>c=true↔AZ (aU s) i j) ?_<|λc hct=>?_
     ·refine Tc hri<|Tc hrj<|Tx (λh=>Tc hrj<|Tc hri<|SR ?_)<|λh=>SR ?_
      ·rw[cP]at h ⊢;constructor
       ·intro h';exact⟨_,_,hri,hrj,hyy,h,h'⟩
       ·rintro⟨a,c,ha,hc',_,_,h'⟩;rw[hri]at ha;injection ha with ha;subst ha
        rw[hrj]at hc';injection hc' with hc';subst hc'
        exact h'
      ·constructor
       ·intro h;cases h
       ·rintro⟨a,c,ha,hc',_,h',_⟩;rw[hri]at ha;injection ha with ha;subst ha
        rw[hrj]at hc';injection hc' with hc';subst hc'
        rw[decide_eq_false_iff_not]at h;exact absurd h' h
     refine S3 (P:=λup'=>∃r E',PJ (aU s) n up' r E'/\(∀p∈E,p∈E')/\(AZ (aU s) i j->(i,j)∈E')) ?_ ?_
     ·refine Tx (λh=>?_)<|λh=>SR ⟨r,E,hP,λp hp=>hp,λht=>by rw[hct.2 ht]at h;cases h⟩
      obtain⟨up',u1,u2⟩:=LG (N:=N) (f:=λx=>some x) hP.uf (i:=i) (k:=j) (by omega) (by omega) (by omega);refine⟨up',u1,_,_,hP.join (by omega) (by omega) u2<|hct.1 h,λp hp=>List.mem_append_left _ hp,λ_=>by simp⟩
     ·rintro up'⟨r',E',hP',hsub,hij⟩;refine Tc hri<|Tc hrj ?_
      dsimp only
      by_cases hx:s[k - 1].Xs[2*t+1]<s[k].Xs[2*u+1]
      ·rw[bO hx,aM];refine IT (x:=(((i+1:Nat):Int),((j:Nat):Int))) (by rw[bI (by omega)])<|Tk ⟨⟨i+1,j,rfl,rfl,by omega,by omega,j1,j2,r',E',hP',λq hq i j q1 q2 ht=>hsub _<|hE q hq i j q1 q2 ht,λi' j' g1 g2 g3 g4 g5 ht=>?_⟩,by simp only[cI];omega⟩
       by_cases h5:i'<i\/j'<j
       ·exact hsub _<|hE2 i' j' g1 g2 g3 g4 h5 ht
       ·have:i'=i:=by omega
        subst this
        by_cases h6:j'=j
        ·subst h6;exact hij ht
        ·exfalso;obtain⟨a,c,ha,hc',_,_,h'⟩:=ht;rw[hri]at ha;injection ha with ha;subst ha
         have:=farJ j' c (by omega) g4 hc';dsimp only at h';omega
      ·rw[bQ hx,aQ];refine IT (x:=(((i:Nat):Int),((j+1:Nat):Int))) (by rw[bI (by omega)])<|Tk ⟨⟨i,j+1,rfl,rfl,i1,i2,by omega,by omega,r',E',hP',λq hq i j q1 q2 ht=>hsub _<|hE q hq i j q1 q2 ht,λi' j' g1 g2 g3 g4 g5 ht=>?_⟩,by simp only[cI];omega⟩
       by_cases h5:i'<i\/j'<j
       ·exact hsub _<|hE2 i' j' g1 g2 g3 g4 h5 ht
       ·have:j'=j:=by omega
        subst this
        by_cases h6:i'=i
        ·subst h6;exact hij ht
        ·exfalso;obtain⟨a,c,ha,hc',_,h',_⟩:=ht;rw[hrj]at hc';injection hc' with hc';subst hc'
         have:=farI i' a (by omega) g2 ha;dsimp only at h';omega
    ·refine⟨r,E,hP,λq hq i' j' q1 q2 ht=>?_⟩
     by_cases hqk:q<k
     ·exact hE q hqk i' j' q1 q2 ht
     ·have:q=k:=by omega
      subst this;obtain⟨_,_,g1,g2⟩:=Hm hc hk q1 q2 ht;refine hE2 i' j' g1 g2 q1 q2 ?_ ht;rw[Bool.and_eq_false_iff,decide_eq_false_iff_not,decide_eq_false_iff_not]at h;omega
   ·exact⟨kf s<|k - 1,kf s k,rfl,rfl,cH _,Bo (by omega),cH _,Bo (by omega),r,E,hP,hE,λi' j' g1 g2 g3 g4 g5=>by omega⟩
  ·by_cases hqk:q<k
   ·exact hE q hqk i j q1 q2 ht
   ·have:q=k:=by omega
    subst this;obtain⟨g0,g1,_⟩:=Hm hc hk q1 q2 ht;rw[hcc.2 ⟨g0,g1⟩]at h;cases h
 ·rintro⟨up,a,b⟩⟨_,_,r,E,hP,hE⟩;dsimp only at hP ⊢;have hEq:∀i j,AZ (aU s) i j->(i,j)∈E:=λi j ht=>by
   have hjl:j<(aU s).length:=by obtain⟨a,c,_,hb,_⟩:=ht;exact(bN.1 hb).1
   obtain⟨q,hq,q1,q2⟩:=JC hjl;exact hE q hq i j q1 q2 ht
  have hJ:Joined (aU s) r:=⟨by rw[hn];exact hP.uf.le,by rw[hn];exact hP.uf.rr,λi j ht=>hP.co (i,j) (hEq i j ht),λS hS i j hi hj=>by
   rw[hn]at hi hj
   exact hP.fi S (λp hp=>hS p.1 p.2 (hP.so p hp)) i j hi hj⟩
  refine S3 (T0 (λk st=>UF n st.1 r/\So k r st.2.1/\st.2.2=(bV k r).map (oX (aU s) k r)) (by omega) ⟨hP.uf,⟨λj k hj=>by simp[bV]at hj,λk=>rfl⟩,rfl⟩<|λk st hk hI=>?_) ?_
  ·obtain⟨l,m,ls⟩:=st;obtain⟨hu,⟨hm1,hm2⟩,hs⟩:=hI;dsimp only at hu hm1 hm2 hs ⊢;subst hs;have hkx:(aU s)[k]? =some ((aU s)[k]'(by omega)):=aP (by omega);refine Tc hkx ?_;obtain⟨u',a1,a2⟩:=FT (N:=N) hu hk (by omega);refine IT a1 ?_;dsimp only;have hhl:=mm k r;have hrk:=hP.uf.le k hk;have hrr:=hP.uf.rr k hk;have hcl:=Du (aU s) k r<|r k
   have hmap:((bV k r).map<|oX (aU s) k r).length=(bV k r).length:=by simp
   rw[hm2]
   by_cases e:r k=k
   ·have hnot:r k∉bV k r:=λh=>by have:=(jV.1 h).1;omega
    refine IT (x:=(rp m ((r k:Nat):Int) (((bV k r).length:Nat):Int),(bV k r).map (oX (aU s) k r)++[([]:List aH)],(((bV k r).length:Nat):Int))) ?_ ?_
    ·rw[bQ hnot,jG,aM,lf (by simp;omega),aB,hmap]
    ·dsimp only;have hi:((bV k r).map (oX (aU s) k r)++[([]:List aH)])[(bV k r).length]? =some []:=by rw[<-hmap,jC<|cH _,Nat.sub_self];rfl
     refine Tc hi<|TM (by simp)<|Tc hi<|SR ⟨a2,⟨λj q hj=>?_,λq=>?_⟩,?_⟩
     ·dsimp only;rw[g9,aG e]at hj;rw[lI]
      by_cases e2:j<(bV k r).length
      ·rw[jB e2]at hj;have:=(jV.1<|fQ hj).1;rw[aI (by omega)];exact hm1 j q hj
      ·rw[jC (by omega)]at hj;have hj0:j -(bV k r).length=0:=by
        have:=(bN.1 hj).1;simp at this;omega
       rw[hj0]at hj;simp at hj;subst hj;rw[aG (by rw[e])];congr 1;omega
     ·dsimp only;rw[oN,hm2,g9,aG e,gS];rw[gR,cP,cP,cP,dD,l4,e];constructor
      ·rintro(h|h)
       ·exact .inr (by omega)
       ·exact .inl h
      ·rintro(h|h)
       ·exact .inr h
       ·exact .inl (by omega)
     ·dsimp only;rw[cI,<-hmap,List.set_append_right _ _<|cH _,Nat.sub_self,g9,aG e,fO];congr 1
      ·apply List.map_congr_left;intro a ha;have:=(jV.1 ha).1;rw[yf a hkx,aI (by omega)]
      ·simp only[List.set_cons_zero,eY,List.map_nil,List.nil_append];rw[yf k hkx,aG e];have:oX (aU s) k r k= []:=by unfold oX;rw[JB (λi hi=>hP.uf.le i (by omega))<|cH _];rfl
       rw[this];rfl
   ·have hh:r k∈bV k r:=jV.2 ⟨by omega,hrr⟩;obtain⟨j,hj⟩:=dW hh;refine IT (x:=(m,(bV k r).map<|oX (aU s) k r,((j:Nat):Int))) ?_ ?_
    ·rw[bO hh,jF,aQ,hm1 j (r k) hj]
    ·dsimp only;have hi:((bV k r).map<|oX (aU s) k r)[j]? =some (oX (aU s) k r<|r k):=by rw[jD,hj];rfl
     refine Tc hi<|TM (by simp;omega)<|Tc hi<|SR ⟨a2,⟨λj' q hj'=>?_,λq=>?_⟩,?_⟩
     ·rw[g9,aI e]at hj';exact hm1 j' q hj'
     ·rw[g9,aI e];exact hm2 q
     ·dsimp only;rw[cI,g9,aI e]
      have:=xI (oX (aU s) k r) (oX (aU s) (k+1) r) (bV k r) j (r k) (oh k r) hj (λb hb hne=>by
       rw[yf b hkx,aI (λh=>hne h.symm)])
      rw[yf (r k) hkx,aG rfl]at this;exact this
  ·rintro⟨l,m,ls⟩⟨_,_,hs⟩;dsimp only at hs ⊢;subst hs;have hhl:=mm n r;refine S3 (T0 (λk ps=>ps.length=k/\∀(j h:Nat)(p:List aA),j<k->(bV n r)[j]? =some h->ps[j]? =some p->tB (oX (aU s) n r h) p) (by simp;omega) ⟨rfl,λj h p hj=>by omega⟩<|λk ps hk hI=>?_) ?_
   ·obtain⟨hp1,hp2⟩:=hI;have hk':k<(bV n r).length:=by simpa using hk
    refine Tc (x:=oX (aU s) n r (bV n r)[k]) (by rw[jD,aP hk'];rfl) ?_;have hcl:=Du (aU s) n r (bV n r)[k];refine S3 (qZ (N:=N) (by omega) (λx hx=>?_) (by omega)) ?_
    ·obtain⟨i,_,_,h⟩:=mV.1 hx;exact(hok x<|fQ h).1
    ·intro p hp;refine TM (by rw[hp1];simp;omega)<|SR ⟨by simp[hp1],λj h q hj hh hq=>?_⟩
     by_cases hjk:j<k
     ·rw[jB (by omega)]at hq;exact hp2 j h q hjk hh hq
     ·have:j=k:=by omega
      subst this;rw[jC (by omega),hp1,Nat.sub_self]at hq;simp at hq;subst hq;rw[aP hk']at hh;injection hh with hh;subst hh
      exact hp
   ·rintro ps⟨hp1,hp2⟩;refine SR ⟨r,hJ,?_,λj h p hh hp=>?_⟩
    ·rw[hp1,hn];simp
    ·rw[hn]at hh ⊢;exact hp2 j h p (by have:=(bN.1 hp).1;omega) hh hp
end
section
variable {N:Nat}
theorem Ay{n:Int}(h: -9223372036854775808<=n/\n<=9223372036854775807):wrap .i64 n=n:=by rw[IntKind.wrap_i64];omega
def gT(n lo hi:Int):Bool:=decide (n>=lo)&&decide (n<=hi)
def oj(n:Int):Bool:=gT n (-1000000) 1000000
def tD(p:jX):Bool:=oj p.X&&oj p.Y
def gl(r:aH):Bool:=oj r.X0&&(oj r.Y0&&(oj r.X1&&oj r.Y1))
theorem Dv(n:Int):mA N n=some (oj n):=rfl
theorem B0(p:jX):kO N p=some (tD p):=by
 unfold kO tD;rw[Dv,aB,Dv]
 cases oj p.X <;> rfl
theorem B1(p:jX):gC N p=some (tD p):=by
 have e:∀n,cU N n=some (oj n):=λ_=>rfl;unfold gC tD;rw[e,aB,e]
 cases oj p.X <;> rfl
theorem Dw(r:aH):oz N r=some (gl r):=by
 unfold oz gl;simp only[Dv,aB]
 cases oj r.X0 <;> cases oj r.Y0 <;> cases oj r.X1 <;> rfl
theorem Hn{a b:Int}(h:a≠b):iR (N+4) [a,b]=some [a,b]:=by
 have e:(b==a)=false:=by rw[beq_eq_false_iff_ne];exact λe=>h e.symm
 have w1:wrap .i64 ((1:Int) - 1)=0:=by decide
 have w2:wrap .i64 ((1:Int)+1)=2:=by decide
 unfold iR;have e1:idx [a,b] 1=some b:=rfl;have e2:idx [a,b] 0=some a:=rfl;have l2:(([a,b]:List Int).length:Int)=2:=rfl;rw[l2,show decide ((2:Int)<2)=false by decide,aQ];rw[jg.eq_def];dsimp only;rw[show decide ((1:Int)<2)=true by decide,aM,e1,aB,w1,e2,aB,e,aQ,aB,w2];dsimp only;rw[jg.eq_def];dsimp only;rw[show decide ((2:Int)<2)=false by decide,aQ,aB];rfl
theorem NQ(x:Int):wrap .i64 (x - x)=0:=by rw[Int.sub_self];decide
theorem Kp{r:aH}(hx:r.X0<r.X1)(hy:r.Y0<r.Y1):iV (N+16) [r]=some [⟨r.Y0,r.Y1,[r.X0,r.X1]⟩]:=by
 have s1:zR (kY<|N+16) [r]=some [r]:=ES (by unfold kY;rw[NQ]);have s2:zR (iS<|N+16) [r]=some [r]:=ES (by unfold iS;rw[NQ]);have s3:w6 [r.Y0,r.Y1]=some [r.Y0,r.Y1]:=Ei (by simp;omega) (by simp);have c1:ki (N+16) [r]=some [r]:=rfl;have f1:∀φ,jr (N+16) [] φ=some []:=λφ=>rfl;have st:kx (N+16) [r]=some ([r.X0,r.X1],[r]):=by
  unfold kx;rw[s2,aB];rfl
 have pu:∀b:aA,b.Xs= [r.X0,r.X1]->b.Y0<b.Y1->j8 (N+16) [] b=some [b]:=λb h1 h2=>by
  unfold j8;rw[h1,bQ (show ¬b.Y1<=b.Y0 by omega)];rfl
 unfold iV;rw[c1,aB,s1,aB];have ys:mx ([r]:List aH).length (λ(k35:Nat)(s36:List Int)=>((idx [r] (k35:Int)).bind λx54=>(app 8 s36 ([x54.Y0,x54.Y1]:List Int)).bind λx58=>some x58:Option (List Int))) ([]:List Int)=some [r.Y0,r.Y1]:=rfl;rw[ys,aB,s3,aB,Hn (N:=N+12) (by omega),aB];have l2:(([r.Y0,r.Y1]:List Int).length:Int)=2:=rfl;have l1:(([r]:List aH).length:Int)=1:=rfl;have w1:wrap .i64 ((0:Int)+1)=1:=by decide
 have w2:wrap .i64 ((1:Int)+1)=2:=by decide
 have i0:idx [r.Y0,r.Y1] 0=some r.Y0:=rfl;have i1:idx [r.Y0,r.Y1] 1=some r.Y1:=rfl;have j0:idx [r] 0=some r:=rfl;have a1:app 32 ([]:List aH) [r]=some [r]:=rfl;rw[l2,l1];rw[jg.eq_def];dsimp only;rw[w1,show decide ((1:Int)<2)=true by decide,aM,f1,aB];rw[jg.eq_def];dsimp only;rw[show decide ((0:Int)<1)=true by decide,aM,j0,aB,i0,aB,aB,show decide (r.Y0<=r.Y0)=true by simp,aM,aB,a1,aB,w1,aB];dsimp only;rw[jg.eq_def];dsimp only;rw[show decide ((1:Int)<1)=false by decide,aQ,aB,aQ,aB,aB];unfold Fo.cs;dsimp only;rw[aB,i1,aB,st,aB,pu _ rfl hy,aB,aB];dsimp only;rw[jg.eq_def];dsimp only;rw[w2,show decide ((2:Int)<2)=false by decide,aQ,aB];rfl
theorem LH{r:aH}(hx:r.X0<r.X1):nQ N [⟨r.Y0,r.Y1,[r.X0,r.X1]⟩]=some (gl r):=by
 have ar:oC N [⟨r.Y0,r.Y1,[r.X0,r.X1]⟩]=some r:=by
  have e1:(if r.X0<r.X0 then r.X0 else r.X0)=r.X0:=by split <;> rfl
  have e2:(if r.X1<r.X1 then r.X1 else r.X1)=r.X1:=by split <;> rfl
  show some ({X0:=(if r.X0<r.X0 then r.X0 else r.X0),Y0:=r.Y0,X1:=(if r.X1<r.X1 then r.X1 else r.X1),Y1:=r.Y1}:aH)=some r;rw[e1,e2]
 unfold nQ;rw[ar,aB,Dw];rfl
def xJ(b:bR):aH:=⟨b.At.X - b.dT / 2,b.At.Y - b.dT / 2,b.At.X - b.dT / 2+b.dT,b.At.Y - b.dT / 2+b.dT⟩
def sj(b:bR):Bool:=gT b.dT 1 10000&&tD b.At
def nH(b:bR):aH×Int:=if sj b&&gl (xJ b)then(xJ b,0)else(⟨0,0,0,0⟩,1)
theorem t9{b:bR}(h:sj b=true):(1<=b.dT/\b.dT<=10000)/\(-1000000<=b.At.X/\b.At.X<=1000000)/\(-1000000<=b.At.Y/\b.At.Y<=1000000):=by
 simp only[sj,gT,tD,oj,cO,decide_eq_true_iff]at h;omega
theorem oq{b:bR}(h:sj b=true):hU N b=some (xJ b):=by
 obtain⟨h1,h2,h3⟩:=t9 h;have t:Int.tdiv b.dT 2=b.dT / 2:=Int.tdiv_eq_ediv_of_nonneg (by omega);unfold hU xJ;rw[t,Ay (n:=b.dT / 2) (by omega),Ay (n:=b.At.X - b.dT / 2) (by omega),Ay (n:=b.At.Y - b.dT / 2) (by omega),Ay (by omega),Ay (by omega)]
theorem Bp{b:bR}:m6 (N+16) b=some (nH b):=by
 have e0:jm (N+16) b.dT 1 10000=some (gT b.dT 1 10000):=rfl;have e1:(bif(!(gT b.dT 1 10000))then some true else some (!(tD b.At)))=some (!sj b):=by unfold sj;cases gT b.dT 1 10000 <;> rfl
 unfold m6 nH;rw[e0,aB,B0,aB,e1,aB]
 cases hf:sj b with
 |false=>rfl
 |true=>
  obtain⟨h1,h2,h3⟩:=t9 hf;have hx:(xJ b).X0<(xJ b).X1:=by simp only[xJ];omega
  have hy:(xJ b).Y0<(xJ b).Y1:=by simp only[xJ];omega
  rw[jF,aQ,oq hf,aB,Kp hx hy,aB,LH hx,aB]
  cases gl (xJ b) <;> rfl
end
section
variable {N:Nat}
def Ho(c:UInt8):Bool:=
 (((decide (((c.toNat:Nat):Int)<65)||decide (((c.toNat:Nat):Int)>90))&&(decide (((c.toNat:Nat):Int)<97)||decide (((c.toNat:Nat):Int)>122)))&&(decide (((c.toNat:Nat):Int)<48)||decide (((c.toNat:Nat):Int)>57)))&&decide (Lib.indexByte [95,43,45,35] c<0)
def isWord(s:eJ):Bool:= !s.dL.any Ho&&(decide (1<=s.dL.length)&&decide (s.dL.length<=40))
theorem wg(s:eJ)(c:UInt8):iz N s ((c.toNat:Nat):Int)=some (Lib.indexByte s.dL c):=by
 show some (Lib.indexByte s.dL (Int.toNat ((c.toNat:Nat):Int)).toUInt8)=_;simp
theorem IE{R:Type}(b1:Bool)(c:UInt8)(r:R):
  ((bif b1 then((iz N (⟨[95,43,45,35]⟩) ((c.toNat:Nat):Int)).bind λx14=>some<|decide<|x14<0)else some false).bind λs12=>bif s12 then some (.rt r)else(some<|.nx ()):Option (Fl Unit R))=some (if(b1&&decide (Lib.indexByte [95,43,45,35] c<0))=true then .rt r else .nx ()):=by
 rw[wg,aB]
 grind
theorem uc{s:eJ}(h:s.dL.length<=2097152):j9 N s=some (isWord s):=by
 unfold j9
 rw[MI Ho false (by omega) (λk x hx=>by
  have hk:=(bN.1 hx).1;have e:Ia s ((k:Nat):Int)=some x:=by grind [Hb,aP]
  rw[e,aB]
  exact IE (R:=Bool) _ x false),aB]
 unfold isWord
 grind [Ho,Fo.cs,jG,Bool.false_eq_true,Option.some.injEq]
def cutAt(c:UInt8):List UInt8->List (List UInt8)
 | []=>[[]]
 |b::l=>if b==c then []::cutAt c l else match cutAt c l with|h::t=>(b::h)::t| []=>[[b]]
theorem Dx{c:UInt8}:∀{l:List UInt8},c∉l->cutAt c l= [l]
 | [],_=>rfl
 |b::l,h=>by
  unfold cutAt;have hb:(b==c)=false:=by rw[beq_eq_false_iff_ne];rintro rfl;exact h (by simp)
  rw[hb,Dx<|λh'=>h (by simp[h'])];rfl
theorem Hp{c:UInt8}:∀{a b:List UInt8},c∉a->cutAt c (a++c::b)=a::cutAt c b
 | [],b,_=>by rw[List.nil_append];show(if(c==c)=true then _ else _)=_;simp
 |x::a,b,h=>by
  have hb:(x==c)=false:=by rw[beq_eq_false_iff_ne];rintro rfl;exact h (by simp)
  have ih:=Hp (c:=c) (a:=a) (b:=b)<|λh'=>h (by simp[h'])
  show(if(x==c)=true then []::cutAt c (a++c::b)else match cutAt c (a++c::b)with|h::t=>(x::h)::t| []=>[[x]])=_;rw[hb,ih];rfl
theorem xK:∀(l:List UInt8)(c:UInt8),(Lib.indexByte l c = -1/\c∉l)\/∃a b,l=a++c::b/\c∉a/\Lib.indexByte l c=((a.length:Nat):Int)
 | [],c=> .inl ⟨rfl,by simp⟩
 |x::l,c=>by
  unfold Lib.indexByte
  by_cases hx:x=c
  ·subst hx;exact .inr ⟨[],l,rfl,by simp,by simp⟩
  ·have hb:(x==c)=false:=by rw[beq_eq_false_iff_ne];exact hx
   rcases xK l c with⟨h1,h2⟩|⟨a,b,h1,h2,h3⟩
   ·left;rw[hb,h1];refine⟨by simp,?_⟩;simp[h2];exact λh=>hx h.symm
   ·right;refine⟨x::a,b,by rw[h1];rfl,by grind,?_⟩;rw[hb,h3];have:(((a.length:Nat):Int)== -1)=false:=by rw[beq_eq_false_iff_ne];omega
    rw[this];simp
theorem LI(s:eJ)(c:UInt8):m7 N s ⟨[c]⟩=some (Lib.indexByte s.dL c):=by
 show(lN N s ⟨[c]⟩).bind _=_;unfold lN
 by_cases h:eJ.o6 ⟨[c]⟩ s=true
 ·grind [Ah,Lib.indexByte]
 ·rw[l5]at h;rw[h];show((jH N s ((c.toNat:Nat):Int)).bind _).bind _=_;have:=wg (N:=N) s c
  grind [iz]
theorem LJ(s:eJ)(c:UInt8):o7 N s ⟨[c]⟩=some ((s.dL.count c:Nat):Int):=by
 unfold o7;show(some _:Option Int)=_;simp[Lib.countByte]
theorem Kq{s:eJ}{k:Nat}(h:k<=s.dL.length):y4 s 0 ((k:Nat):Int)=some ⟨s.dL.take k⟩:=by
 unfold y4;grind
theorem Kr{s:eJ}{k:Nat}(h:k<=s.dL.length):y4 s ((k:Nat):Int) ((s.dL.length:Nat):Int)=some ⟨s.dL.drop k⟩:=by
 grind [y4,cI,mz,l3]
def pN(s:eJ)(c:UInt8):List eJ:=(cutAt c s.dL).map eJ.mk
theorem Hq{s:eJ}(c:UInt8)(h:s.dL.length<=2097152)(hN:4194304<=N):m8 N s ⟨[c]⟩=some (pN s c):=by
 have hc:s.dL.count c<=s.dL.length:=List.count_le_length;unfold m8 oD;rw[show((-1:Int)==0)=false by decide,aQ,show eJ.o6 ⟨[c]⟩ ⟨[]⟩=false by simp[eJ.o6],aQ,LJ,aB];rw[fP (x:=((s.dL.count c:Nat):Int)+1) (by omega) (by omega),show decide ((-1:Int)<0)=true by decide,aM,aB];rw[fP (x:=((s.dL.length:Nat):Int)+1) (by omega) (by omega)];have e1:(if((s.dL.length:Nat):Int)+1<((s.dL.count c:Nat):Int)+1 then((s.dL.length:Nat):Int)+1 else((s.dL.count c:Nat):Int)+1)=((s.dL.count c+1:Nat):Int):=by
  omega
 rw[e1,pD _ (by omega),aB];rw[fP (x:=((s.dL.count c+1:Nat):Int) - 1) (by omega) (by omega)];have key:=Ag (S:=eJ×List eJ×Int) (R:=Empty) (body:=(λ(s7:eJ×List eJ×Int)=>(bif decide (s7.2.2<((s.dL.count c+1:Nat):Int) - 1)then((m7 N s7.1 ⟨[c]⟩).bind λx23=>bif decide (x23<0)then some (.br (s7.1,s7.2.1,s7.2.2))else((y4 s7.1 0<|wrap .i64<|x23+0).bind λx24=>(idx s7.2.1 s7.2.2).bind λx25=>(y4 s7.1 (wrap .i64<|x23+(((⟨[c]⟩:eJ).dL.length:Nat):Int)) ((s7.1.dL.length:Nat):Int)).bind λx27=>some<|.nx (x27,s7.2.1.set (Int.toNat s7.2.2) x24,wrap .i64<|s7.2.2+1)))else(some<|.br (s7.1,s7.2.1,s7.2.2)):Option (Fl (eJ×List eJ×Int) Empty))))
  (λst=>∃ws:List (List UInt8),st.2.2=((ws.length:Nat):Int)/\cutAt c s.dL=ws++cutAt c st.1.dL/\ws.length+st.1.dL.count c=s.dL.count c/\st.1.dL.length<=s.dL.length/\st.2.1=ws.map eJ.mk++List.replicate (s.dL.count c+1 - ws.length) ⟨[]⟩)
  (λst=>s.dL.count c+1 - st.2.2.toNat)
  (λst=>∃ws:List (List UInt8),st.2.2=((ws.length:Nat):Int)/\cutAt c s.dL=ws++[st.1.dL]/\ws.length=s.dL.count c/\st.2.1=ws.map eJ.mk++[⟨[]⟩])
  (λ_=>True) (by
   rintro⟨r,arr,i⟩⟨ws,h1,h2,h3,h4,h5⟩;simp only at h1 h2 h3 h4 h5;subst h1 h5
   by_cases hlt:ws.length<s.dL.count c
   ·have hd:decide (((ws.length:Nat):Int)<((s.dL.count c+1:Nat):Int) - 1)=true:=by grind
    simp only[hd,aM,LI,aB]
    rcases xK r.dL c with⟨_,hn⟩|⟨a,b,hr,ha,hi⟩
    ·grind
    ·have hrl:r.dL.length=a.length+(b.length+1):=by rw[hr];simp
     rw[hi,bQ (by omega),aQ];rw[show((a.length:Nat):Int)+0=((a.length:Nat):Int)by omega,fP (x:=((a.length:Nat):Int)) (by omega) (by omega),Kq (by omega),aB];rw[l6 _ _ (by simp;omega),aB];rw[show((a.length:Nat):Int)+(((⟨[c]⟩:eJ).dL.length:Nat):Int)=((a.length+1:Nat):Int)by simp,fP (x:=((a.length+1:Nat):Int)) (by omega) (by omega),Kr (by omega),aB];refine⟨_,rfl,⟨ws++[a],?_,?_,?_,?_,?_⟩,?_⟩
     ·grind [fP]
     ·simp_all[Hp]
     ·simp only;rw[hr]at h3 ⊢;simp[List.count_eq_zero_of_not_mem ha]at h3 ⊢;omega
     ·simp;omega
     ·simp only[cI];rw[List.set_append_right _ _ (by simp)];simp only[dU,Nat.sub_self];obtain⟨d,hd'⟩:∃d,s.dL.count c+1 - ws.length=d+1:=⟨s.dL.count c - ws.length,by omega⟩;rw[hd',List.replicate_succ,List.set_cons_zero,show s.dL.count c+1 -(ws++[a]).length=d by simp;omega];simp[hr]
     ·simp only;rw[fP (by omega) (by omega)];omega
   ·have hd:decide (((ws.length:Nat):Int)<((s.dL.count c+1:Nat):Int) - 1)=false:=by rw[decide_eq_false_iff_not];omega
    simp only[hd,aQ];refine⟨_,rfl,ws,rfl,?_,by omega,?_⟩
    ·have h0:r.dL.count c=0:=by omega
     rw[h2,Dx<|List.count_eq_zero.1 h0]
    ·rw[show s.dL.count c+1 - ws.length=1 by omega];rfl)
  N (s,List.replicate (s.dL.count c+1) ⟨[]⟩,0) ⟨[],rfl,rfl,by simp,cH _,by simp⟩ (by simp only;omega)
 obtain⟨o,ho,hgo⟩:=key;rw[ho,aB]
 cases o with
 |rt r=>exact r.elim
 |go st=>
  obtain⟨r,arr,i⟩:=st;obtain⟨ws,h1,h2,h3,h4⟩:=hgo;simp only at h1 h2 h3 h4;subst h1 h4;simp only[Fo.cs];rw[l6 _ _ (by simp),aB,fP (by omega) (by omega)];rw[show((ws.length:Nat):Int)+1=((ws.length+1:Nat):Int)by omega,tj _ _ (by simp),aB,aB];unfold pN;rw[h2];rw[cI,List.set_append_right _ _ (by simp),mz (by simp)];simp
def oY(s:eJ):Bool:=decide (s.dL.length<=200)&&(pN s 47).all isWord
theorem yg{c:UInt8}:∀{l x:List UInt8},x∈cutAt c l->x.length<=l.length
 | [],x,h=>by simp[cutAt]at h;subst h;simp
 |b::l,x,h=>by
  unfold cutAt at h;split at h
  ·rcases eF.1 h with h|h
   ·subst h;simp
   ·have:=yg h;simp;omega
  ·split at h
   ·rename_i t e
    rcases eF.1 h with h|h
    ·subst h;have:=yg (c:=c) (l:=l) (by rw[e];exact List.mem_cons_self);simp;omega
    ·have:=yg (c:=c) (l:=l) (by rw[e];exact kg _ h);simp;omega
   ·simp at h;subst h;simp
theorem EY(c:UInt8):∀(l:List UInt8),(cutAt c l).length<=l.length+1
 | []=>by simp[cutAt]
 |b::l=>by
  have:=EY c l;unfold cutAt;split
  ·simp;omega
  ·split
   ·rename_i e;rw[e]at this;simp at this ⊢;omega
   ·simp
theorem EZ{s x:eJ}{c:UInt8}(h:x∈pN s c):x.dL.length<=s.dL.length:=by
 obtain⟨y,hy,rfl⟩:=dV.1 h;exact yg hy
theorem E0(s:eJ)(c:UInt8):(pN s c).length<=s.dL.length+1:=by simp[pN,dU,EY]
theorem Az{s:eJ}(h:s.dL.length<=2097152)(hN:4194304<=N):nR N s=some (oY s):=by
 unfold nR oY
 by_cases hl:s.dL.length<=200
 ·rw[bO (by omega),aM,Hq 47 h hN,aB]
  have e:=uV (l:=pN s 47) (φ:=ju N) (λx=> !isWord x) (by have:=E0 s 47;omega) (λx hx=>by
   unfold ju
   rw[uc (by have:=EZ hx;omega)];rfl)
  have e2:jt N (pN s 47) (ju N)=uw (pN s 47) (ju N):=rfl;rw[e2,e,aB,aB,bO hl,Bool.true_and];congr 1;rw[gS];simp
 ·rw[bQ (by omega),aQ,aB,bQ hl,Bool.false_and]
end
end Go.Gk
namespace Go.Gk
open Go IntKind Classical
section
variable {N:Nat}
theorem LK{a b:aA}(h:cG a=cG b):a=b:=by cases a;simp_all[cG]
theorem AA:∀{s t:List aA},s.map cG=t.map cG->s=t
 | [],[],_=>rfl
 | [],_::_,h=>by cases h
 |_::_,[],h=>by cases h
 |a::s,b::t,h=>by
  rw[eY,eY]at h;injection h with h1 h2
  rw[LK h1,AA h2]
theorem Hr{s t:List aA}(hs:fF (s.map cG))(ht:fF (t.map cG))(h:∀x y,wX (s.map cG) x y=wX (t.map cG) x y):s=t:=AA<|wc hs ht h
theorem tB.unique{l:List aH}{s t:List aA}(hs:tB l s)(ht:tB l t):s=t:=Hr hs.can ht.can λx y=>by rw[hs.cover,ht.cover]
theorem tB.Hs{l:List aH}{s:List aA}(h:tB l s):s.length<=2*l.length/\(∀b∈s,b.Xs.length<=2*l.length)/\(aU s).length<=2*l.length*(2*l.length):=by
 have h1:s.length<=2*l.length:=by have:=h.lim.len h.can;grind [dU,mU]
 have h2:∀b∈s,b.Xs.length<=2*l.length:=λb hb=>by
  have:=h.lim.row h.can (b:=cG b)<|dV.2 ⟨b,hb,rfl⟩
  rwa[tA]at this
 simp_all[Dm]
theorem Ks{n:Int}(h:oj n=true): -1000000<=n/\n<=1000000:=by
 unfold oj gT at h
 grind
theorem ot{r:aH}(h:gl r=true):(-1000000<=r.X0/\r.X0<=1000000)/\(-1000000<=r.Y0/\r.Y0<=1000000)/\(-1000000<=r.X1/\r.X1<=1000000)/\(-1000000<=r.Y1/\r.Y1<=1000000):=by
 unfold gl at h
 simp_all[cO,Ks]
theorem Dy{r:aH}(h:(-1000000<=r.X0/\r.X0<=1000000)/\(-1000000<=r.Y0/\r.Y0<=1000000)/\(-1000000<=r.X1/\r.X1<=1000000)/\(-1000000<=r.Y1/\r.Y1<=1000000)):gl r=true:=by
 unfold gl oj gT
 grind
theorem FV{r:aH}(h:gl r=true)(hx:r.X0<r.X1)(hy:r.Y0<r.Y1):D3 r:=by
 have:=ot h;refine⟨hx,hy,?_,?_,?_,?_⟩ <;> unfold small <;> omega
def mI(r:aH):Option Int:=if gl r=true then(if r.X1<=r.X0\/r.Y1<=r.Y0 then some 13 else none)else some 1
def mW(l:List aH):Int:=if 2000<l.length then 2 else(l.findSome? mI).getD 0
theorem Ek{l:List aH}(hl:l.length<=4611686018427387904):l9 N l=some (mW l):=by
 unfold l9 mW
 by_cases h:2000<l.length
 ·grind
 ·rw[bQ (by omega),aQ,aI h,Ai mI hl (λk x hx=>by
   rw[cC hx,aB,Dw,aB];unfold mI
   cases hr:gl x with
   |false=>rfl
   |true=>
    rw[jF,aQ,aG rfl]
    by_cases h2:x.X1<=x.X0\/x.Y1<=x.Y0
    ·rw[aG h2,show(decide (x.X1<=x.X0)||decide (x.Y1<=x.Y0))=true by grind];rfl
    ·rw[aI h2,show(decide (x.X1<=x.X0)||decide (x.Y1<=x.Y0))=false by grind];rfl),aB]
  cases l.findSome? mI <;> rfl
theorem AB{r:aH}:mI r=none↔gl r=true/\r.X0<r.X1/\r.Y0<r.Y1:=by
 grind [mI]
theorem Ht{r:aH}{e:Int}(h:mI r=some e):e≠0:=by
 grind [mI]
theorem uF{l:List aH}:mW l=0↔l.length<=2000/\∀r∈l,gl r=true/\r.X0<r.X1/\r.Y0<r.Y1:=by
 unfold mW
 by_cases h:2000<l.length
 ·omega
 ·rw[aI h]
  cases hf:l.findSome? mI with
  |none=>
   grind [List.findSome?_eq_none_iff,AB]
  |some e=>
   obtain⟨r,hr,he⟩:=List.exists_of_findSome?_eq_some hf
   grind [Ht,AB]
def OV(l:List aH):Prop:=∀(k:Nat)a b,l[k]? =some a->l[k+1]? =some b->¬(b.Y0<a.Y0\/(b.Y0=a.Y0/\b.X0<=a.X0))
def FW(l:List aH):Prop:=∃s,tB l s/\aU s=l
noncomputable def jW(l:List aH):Int:=if mW l≠0 then mW l else if OV l then(if FW l then 0 else 3)else 8
theorem Dz{l:List aH}(h:mW l=0):l.length<=2000/\∀r∈l,D3 r:=by grind [uF,FV]
theorem IF{l m:List aH}(hl:l.length<=4611686018427387904):lL N l m=some (decide<|l=m):=by
 have:=EP (l:=l) (m:=m) hl
 grind [Iu,lL,decide,instDecidableEqList]
theorem xL{l:List aH}(hl:l.length<=1073741824)(hN:4398046511104<=N):kj N l=some (jW l):=by
 refine TT ?_;unfold kj;refine IT (Ek (by omega)) ?_;unfold jW;refine Tx (λh=>SR ?_)<|λh=>?_
 ·grind
 ·have h0:mW l=0:=by simpa using h
  rw[aI (by omega)];obtain⟨hlen,hok⟩:=Dz h0;refine S3 (T4 (Go:=λ_=>OV l) (Rt:=λr=>r=8/\¬OV l) (λs=>∃k:Nat,s=((k:Nat):Int)/\1<=k/\∀(j:Nat)a b,j+1<k->l[j]? =some a->l[j+1]? =some b->¬(b.Y0<a.Y0\/(b.Y0=a.Y0/\b.X0<=a.X0))) (λs=>l.length - s.toNat) ?_ ⟨1,rfl,cH _,λj a b hj=>by omega⟩ (by simp;omega)) ?_
  ·rintro s⟨k,rfl,hk,hI⟩;refine Tx (λh=>?_)<|λh=>Tu λj a b ha hb=>hI j a b ?_ ha hb
   ·have hk2:k<l.length:=by grind
    rw[ja hk (by omega)];refine TU (by omega)<|TU hk2<|Tx (λhb=>TW ⟨rfl,λhu=>?_⟩)<|λhb=>Tk ⟨⟨k+1,by grind [bI],by omega,λj a b hj ha hb'=>?_⟩,by grind [bI,cI]⟩
    ·refine hu (k - 1) l[k - 1] l[k] (aP _) (by grind) ?_
     grind
    grind
   grind
  ·rintro o ho;refine Tv ho (λs hu=>?_)<|λr hr=>SR (by grind)
   rw[aG hu];refine S3 (qZ (N:=N) (by omega) hok (by omega)) ?_;intro s hs;obtain⟨z1,z2,z3⟩:=hs.Hs;have z4:2*l.length*(2*l.length)<=4000*4000:=Nat.mul_le_mul (by omega) (by omega);refine IT (Dn (vr hs.can) (by omega) (λb hb=>by grind) (by omega))<|IT (IF (by omega)) ?_
   have hiff:FW l↔aU s=l:=⟨λ⟨t,h1,h2⟩=>by rw[hs.unique h1];exact h2,λh=>⟨s,hs,h⟩⟩
   grind [SR,aU]
theorem rL{l:List aH}:jW l=0↔mW l=0/\OV l/\FW l:=by
 unfold jW
 grind
theorem zw(n lo hi:Int):jm N n lo hi=some (gT n lo hi):=rfl
theorem Kt{b:bR}(hN:16<=N):m6 N b=some (nH b):=by
 have:=Bp (N:=N - 16) (b:=b)
 grind
def mJ(n:Nat)(b:bR):Option Int:=if(nH b).2≠0 then some (nH b).2 else if gT b.cR 0 (((n:Nat):Int) - 1)=true/\gT b.To b.cR (((n:Nat):Int) - 1)=true then none else some 1
def jy(a:gQ):Int:=if 500<a.aN.length then 2 else(a.aN.findSome?<|mJ a.aK.length).getD 0
theorem El{a:gQ}(h1:a.aK.length<=4611686018427387904)(h2:a.aN.length<=4611686018427387904)(hN:16<=N):lM N a=some (jy a):=by
 unfold lM jy
 by_cases h:500<a.aN.length
 ·grind
 ·have hw:wrap .i64 (((a.aK.length:Nat):Int) - 1)=((a.aK.length:Nat):Int) - 1:=fP (by omega) (by omega)
  rw[bQ (by omega),aQ,aI h,Ai (mJ a.aK.length) h2 (λk x hx=>by
   rw[cC hx,aB,Kt hN,aB];unfold mJ
   by_cases h0:(nH x).2=0
   ·rw[aI (by omega),h0,show((0:Int) != 0)=false by rfl,aQ,hw,zw,aB,zw,aB]
    cases h3:gT x.cR 0 (((a.aK.length:Nat):Int) - 1) <;> cases h4:gT x.To x.cR (((a.aK.length:Nat):Int) - 1) <;> rfl
   ·rw[aG h0,show((nH x).2 != 0)=true by grind];rfl),aB]
  cases a.aN.findSome? (mJ a.aK.length) <;> rfl
theorem Hu{b:bR}(h:(nH b).2=0):sj b=true/\gl (xJ b)=true:=by
 unfold nH at h
 grind
theorem ng{a:gQ}(h:jy a=0):a.aN.length<=500/\∀b∈a.aN,sj b=true/\gl (xJ b)=true/\0<=b.cR/\b.cR<=b.To/\b.To<((a.aK.length:Nat):Int):=by
 unfold jy at h;split at h
 ·omega
 ·refine⟨by omega,λb hb=>?_⟩;have hn:mJ a.aK.length b=none:=by
   cases hf:a.aN.findSome? (mJ a.aK.length)with
   |none=>grind
   |some e=>
    rw[hf]at h;obtain⟨c,hc,he⟩:=List.exists_of_findSome?_eq_some hf
    grind [mJ]
  unfold mJ at hn;split at hn
  ·cases hn
  ·rename_i h0;split at hn
   ·rename_i h1;have h0:(nH b).2=0:=by omega
    have:=Hu h0;unfold gT at h1
    grind
   ·cases hn
theorem NR{b:bR}(h1:sj b=true)(h2:gl (xJ b)=true):D3 (xJ b):=by
 have hf:=t9 h1;refine FV h2 ?_ ?_
 ·show b.At.X - b.dT / 2<b.At.X - b.dT / 2+b.dT;omega
 ·show b.At.Y - b.dT / 2<b.At.Y - b.dT / 2+b.dT;omega
def gJ(p q:dQ):Int:=if Lib.compareBytes p.Part.dL q.Part.dL≠0 then Lib.compareBytes p.Part.dL q.Part.dL else Lib.compareBytes p.dQ.dL q.dQ.dL
theorem mX(p q:dQ):eT N p q=some (gJ p q):=by
 unfold eT gJ;show(bif Lib.compareBytes p.Part.dL q.Part.dL != 0 then _ else _)=_
 by_cases h:Lib.compareBytes p.Part.dL q.Part.dL=0
 ·rw[h,aI (by simp)];rfl
 ·rw[aG h,show(Lib.compareBytes p.Part.dL q.Part.dL != 0)=true by simpa using h];rfl
def kM(l:cS):dQ:=⟨l.Part,l.dQ⟩
theorem Bq(l:cS):mB N l=some (kM l):=rfl
def lu(a:gQ)(k:Nat):Option Int:=(a.bJ[k]?).bind λx=>
 if(oY x.Part&&isWord x.dQ)=true then
  if(gT x.dN 0 (((a.aK.length:Nat):Int) - 1)&&tD x.At)=true then
   if 0<k/\(∃y,a.bJ[k - 1]? =some y/\gJ (kM x) (kM y)<=0)then some 8 else none
  else some 1
 else some 5
noncomputable def mY(a:gQ):Int:=if 1000<a.bJ.length then 2 else(nK a.bJ.length<|lu a).getD 0
end
section
variable {N:Nat}
def DA(a:gQ):Prop:=∀x∈a.bJ,x.Part.dL.length<=2097152/\x.dQ.dL.length<=2097152
theorem Em{a:gQ}(h1:a.aK.length<=1073741824)(h2:a.bJ.length<=1073741824)(h3:DA a)(hN:4194304<=N):lO N a=some (mY a):=by
 unfold lO mY
 by_cases h:1000<a.bJ.length
 ·grind
 ·have hw:wrap .i64 (((a.aK.length:Nat):Int) - 1)=((a.aK.length:Nat):Int) - 1:=fP (by omega) (by omega)
  rw[bQ (by omega),aQ,aI h,o9 (lu a) (by omega) (λk hk _=>by
   have hx:a.bJ[k]? =some a.bJ[k]:=aP hk;have hs:=h3 _<|cL hk
   rw[cC hx,aB,Az hs.1 hN,aB]
   have hle:lu a k=(if(oY a.bJ[k].Part&&isWord a.bJ[k].dQ)=true then
     if(gT a.bJ[k].dN 0 (((a.aK.length:Nat):Int) - 1)&&tD a.bJ[k].At)=true then
      if 0<k/\(∃y,a.bJ[k - 1]? =some y/\gJ (kM a.bJ[k]) (kM y)<=0)then some 8 else none
     else some 1
    else some 5):=by unfold lu;rw[hx];rfl
   rw[hle];have e1:((bif(!oY a.bJ[k].Part)then some true else((j9 N a.bJ[k].dQ).bind λx225=>some<|!x225)):Option Bool)=some (!(oY a.bJ[k].Part&&isWord a.bJ[k].dQ)):=by
    grind [uc,aB,oY]
   have e2:((jm N a.bJ[k].dN 0<|wrap .i64<|((a.aK.length:Nat):Int) - 1).bind λx318=>bif(!x318)then some true else((kO N a.bJ[k].At).bind λx321=>some<|!x321))=some (!(gT a.bJ[k].dN 0 (((a.aK.length:Nat):Int) - 1)&&tD a.bJ[k].At)):=by
    grind [zw,aB,B0]
   show((bif(!oY a.bJ[k].Part)then some true else((j9 N a.bJ[k].dQ).bind λx225=>some<|!x225)):Option Bool).bind _=_;rw[e1,aB]
   cases h4:(oY a.bJ[k].Part&&isWord a.bJ[k].dQ)with
   |false=>rfl
   |true=>
    rw[jF,aQ,aG rfl];show(((jm N a.bJ[k].dN 0<|wrap .i64<|((a.aK.length:Nat):Int) - 1).bind λx318=>bif(!x318)then some true else((kO N a.bJ[k].At).bind λx321=>some<|!x321))).bind _=_;rw[e2,aB]
    cases h5:(gT a.bJ[k].dN 0 (((a.aK.length:Nat):Int) - 1)&&tD a.bJ[k].At)with
    |false=>rfl
    |true=>
     rw[jF,aQ,aG rfl]
     by_cases h0:0<k
     ·rw[bO (by omega),aM,ja h0 (by omega),l6 _ _ (by omega)];simp only[Bq,aB,mX]
      by_cases h6:gJ (kM a.bJ[k]) (kM a.bJ[k - 1])<=0
      ·rw[bO h6,aG ⟨h0,_,aP (by omega),h6⟩];rfl
      ·rw[bQ h6,aI (by
        grind)];rfl
     ·rw[bQ (by omega),aI (λh=>h0 h.1)];rfl),aB]
  cases nK a.bJ.length (lu a) <;> rfl
def mn(b:bR)(k:Int):Bool:=decide (b.cR<=k)&&decide (k<=b.To)
theorem DB(b:bR)(k:Int):mb N b k=some (mn b k):=rfl
def lk(bs:List bR)(k:Int):List aH:=(bs.filter<|λb=>mn b k).map xJ
structure kV (bs:List bR):Prop where
 len:bs.length<=500
 ok:∀b∈bs,sj b=true/\gl (xJ b)=true
structure wh (r hs:List aH) (s:List aA):Prop where
 can:fF (s.map cG)
 cover:∀x y,wX (s.map cG) x y=(uE r x y&& !uE hs x y)
 lim:zD (vn r++vn hs) (j6 r++j6 hs) (s.map cG)
theorem Bs{bs:List bR}(h:kV bs)(k:Int):(lk bs k).length<=500:=by
 unfold lk;rw[dU];have:=rf (λb=>mn b k) bs;have:=h.len;omega
theorem tE{bs:List bR}(h:kV bs)(k:Int):∀r∈lk bs k,D3 r/\gl r=true:=by
 intro r hr;unfold lk at hr;obtain⟨b,hb,rfl⟩:=dV.1 hr;have:=h.ok b (my.1 hb).1
 grind [NR]
theorem wh.small{r hs:List aH}{s:List aA}(h:wh r hs s)(h1:∀x∈r,D3 x)(h2:∀x∈hs,D3 x):(∀c∈vn r++vn hs,small c)/\∀c∈j6 r++j6 hs,small c:=by
 constructor
 ·intro c hc
  rcases dD.1 hc with h|h
  ·obtain⟨x,hx,rfl|rfl⟩:=vo.1 h
   ·exact(h1 x hx).s1
   ·exact(h1 x hx).s2
  ·obtain⟨x,hx,rfl|rfl⟩:=vo.1 h
   ·exact(h2 x hx).s1
   ·exact(h2 x hx).s2
 ·intro c hc
  rcases dD.1 hc with h|h
  ·obtain⟨x,hx,rfl|rfl⟩:=oc.1 h
   ·exact(h1 x hx).s3
   ·exact(h1 x hx).s4
  ·obtain⟨x,hx,rfl|rfl⟩:=oc.1 h
   ·exact(h2 x hx).s3
   ·exact(h2 x hx).s4
theorem yh{s:List aA}{X Y:List Int}{A:Nat}(hc:fF (s.map cG))(h:zD X Y (s.map cG))(hX:X.length<=A)(hY:Y.length<=A):s.length<=A/\(∀b∈s,b.Xs.length<=A)/\(aU s).length<=A*A:=by
 have h1:s.length<=A:=by have:=h.len hc;grind
 have h2:∀b∈s,b.Xs.length<=A:=λb hb=>by
  have:=h.row hc (b:=cG b)<|dV.2 ⟨b,hb,rfl⟩
  grind [cG]
 simp_all[Dm]
theorem En{r hs:List aH}(h1:r.length<=2000)(h2:∀x∈r,D3 x)(h3:hs.length<=500)(h4:∀x∈hs,D3 x)(hN:4398046511104<=N){β:Type}{f:List aA->Option β}{Q:β->Prop}(k:∀s,wh r hs s->Ok (f s) Q):
  Ok ((iV N r).bind λx378=>(iV N hs).bind λx380=>(mc N x378 x380).bind f) Q:=by
 refine S3 (qZ (N:=N) (by omega) h2 (by omega))<|λs hs1=>?_
 refine S3 (qZ (N:=N) (by omega) h4 (by omega))<|λt ht=>?_
 have hz:∀c∈j6 r++j6 hs,small c:=by
  intro c hc
  rcases dD.1 hc with h|h
  ·obtain⟨x,hx,rfl|rfl⟩:=oc.1 h
   ·exact(h2 x hx).s3
   ·exact(h2 x hx).s4
  ·obtain⟨x,hx,rfl|rfl⟩:=oc.1 h
   ·exact(h4 x hx).s3
   ·exact(h4 x hx).s4
 refine S3 (Ko (X:=vn r++vn hs) (Y:=j6 r++j6 hs) hs1.can ht.can (hs1.lim.mono (λc h=>List.mem_append_left _ h) (λc h=>List.mem_append_left _ h)) (ht.lim.mono (λc h=>List.mem_append_right _ h) (λc h=>List.mem_append_right _ h))
  (by grind [eL,tA]) (by grind [eL,mU]) hz hN) (λu hu=>?_)
 exact k u ⟨hu.can,λx y=>by rw[hu.cover,hs1.cover,ht.cover],hu.lim⟩
def bY:Nat->List (List<|List aA)->List aF
 |_,[]=>[]
 |k,ps::r=>ps.map (λp=>⟨((k:Nat):Int),p,aU p⟩)++bY (k+1) r
theorem wi(ps:List (List aA)):∀(r:List (List<|List aA))(k:Nat),bY k (r++[ps])=bY k r++ps.map (λp=>⟨((k+r.length:Nat):Int),p,aU p⟩)
 | [],k=>by unfold bY;simp[bY]
 |q::r,k=>by
  show _++bY (k+1) (r++[ps])=(_++bY (k+1) r)++_;rw[wi ps r<|k+1,py];congr 3;simp only[fq];rw[show k+(r.length+1)=k+1+r.length by omega]
theorem DC{s p:List aA}{ps:List (List aA)}{r:Nat->Nat}{X Y:List Int}(h:t8 s r ps)(hc:fF (s.map cG))(hl:zD X Y (s.map cG))(hX:∀c∈X,small c)(hY:∀c∈Y,small c)(hp:p∈ps):
  ∃j k:Nat,ps[j]? =some p/\(bV (aU s).length r)[j]? =some k/\tB (oX (aU s) (aU s).length r k) p/\zD X Y (p.map cG):=by
 obtain⟨j,hj⟩:=dW hp;have hjl:=(bN.1 hj).1;rw[h.len]at hjl;have hh:(bV (aU s).length r)[j]? =some (bV (aU s).length r)[j]:=aP hjl;have hs:=h.each j _ p hh hj;refine⟨j,_,hj,hh,hs,hs.lim.mono (λc hcx=>?_)<|λc hcx=>?_⟩
 ·obtain⟨x,hx,hxc⟩:=vo.1 hcx;obtain⟨i,_,_,hi⟩:=mV.1 hx;have:=Dp hc hl hX hY x<|fQ hi
  grind
 ·obtain⟨x,hx,hxc⟩:=oc.1 hcx;obtain⟨i,_,_,hi⟩:=mV.1 hx;have:=Dp hc hl hX hY x<|fQ hi
  grind
structure xM (cs:List (List aH)) (bs:List bR) (k:Nat) (kp:List (List aA)) (dJ:List (List (List aA))):Prop where
 len:kp.length=k
 Bt:dJ.length=k
 dr:∀(i:Nat)r s,i<k->cs[i]? =some r->kp[i]? =some s->wh r (lk bs ((i:Nat):Int)) s
 pt:∀(i:Nat)s ps,i<k->kp[i]? =some s->dJ[i]? =some ps->∃u,t8 s u ps
 xN:(bY 0 dJ).length<=k*25000000
theorem t8.xN{s:List aA}{u:Nat->Nat}{ps:List (List aA)}(h:t8 s u ps):ps.length<=(aU s).length:=by
 rw[h.len];exact mm _ _
theorem IG{cs:List (List aH)}{bs:List bR}(hcs:cs.length<=16)(hc:∀r∈cs,r.length<=2000/\∀x∈r,D3 x)(hb:kV bs)(hN:4398046511104<=N):
  Ok (kZ N cs bs [] []) (λx=>∃dJ,xM cs bs cs.length x.2.1 dJ/\x.2.2=bY 0 dJ/\(x.1=true↔(∀s∈x.2.1,(aU s).length<=2000)/\x.2.2.length<=2000)):=by
 unfold kZ
 refine S3 (P:=λ(st:List (List aA)×List aF×Bool)=>∃dJ,xM cs bs cs.length st.1 dJ/\st.2.1=bY 0 dJ/\(st.2.2=true↔∀s∈st.1,(aU s).length<=2000)) (T0 (λ(k:Nat)(st:List (List aA)×List aF×Bool)=>∃dJ,xM cs bs k st.1 dJ/\st.2.1=bY 0 dJ/\(st.2.2=true↔∀s∈st.1,(aU s).length<=2000)) (by omega)
  ⟨[],⟨rfl,rfl,λi r s hi=>by omega,λi s ps hi=>by omega,by simp[bY]⟩,rfl,by simp⟩ (λk st hk hI=>?_)) ?_
 ·obtain⟨kp,pcs,okk⟩:=st;obtain⟨dJ,D,e1,e2⟩:=hI;dsimp only at D e1 e2 ⊢;subst e1;have hkx:cs[k]? =some cs[k]:=aP hk;obtain⟨hr1,hr2⟩:=hc _<|cL hk
  refine Tc hkx ?_;refine S3 (P:=λt=>t=lk bs ((k:Nat):Int)) (Ok.mono (T0 (λj t=>t=lk (bs.take j) ((k:Nat):Int)) (by have:=hb.len;omega) rfl<|λj t hj e=>?_) (λt e=>by rw[e,fG]))<|λt e=>?_
  ·subst e;refine TU hj<|IT (DB _ _) ?_
   have hts:bs.take (j+1)=bs.take j++[bs[j]]:=eA hj;have hgb:=hb.ok _<|cL hj
   have hl:(lk (bs.take j) ((k:Nat):Int)).length<=500:=by
    unfold lk;rw[dU];have:=rf (λb=>mn b ((k:Nat):Int))<|bs.take j
    rw[dI]at this;have:=hb.len;omega
   cases ht:mn bs[j] ((k:Nat):Int)with
   |false=>
    grind [IT,SR,lk]
   |true=>
    rw[aM]
    grind [IT,lk,oq,aB,lf,SR]
  ·subst e;have hho:=tE hb ((k:Nat):Int);have hhl:=Bs hb ((k:Nat):Int);refine En hr1 hr2 hhl (λx hx=>(hho x hx).1) hN<|λs hs=>?_
   obtain⟨sx,sy⟩:=hs.small hr2<|λx hx=>(hho x hx).1
   obtain⟨z1,z2,z3⟩:=yh (A:=5000) hs.can hs.lim (by grind [eL,tA]) (by grind [eL,mU]);have hmany:=MS (N:=N) (s:=s) (by omega) (λb hb=>by grind) (by omega);refine IT (x:=(okk&&decide ((aU s).length<=2000),s)) ?_ ?_
   ·grind [aB,decide,aU]
   dsimp only;refine TM (by rw[D.len];simp;omega) ?_;refine S3 (ID (N:=N) hs.can hs.lim sx sy (by omega) (λb hb=>by grind) (by omega) hN) ?_;rintro ps⟨u,hu⟩;have hfew:=hu.xN;have hk16:k*25000000<=16*25000000:=Nat.mul_le_mul_right _ (by omega);have hDf:=D.xN;refine S3 (P:=λt=>t=bY 0 dJ++ps.map (λp=>(⟨((k:Nat):Int),p,aU p⟩:aF))) (Ok.mono (T0 (λj t=>t=bY 0 dJ++(ps.take j).map (λp=>(⟨((k:Nat):Int),p,aU p⟩:aF))) (by omega) (by simp)<|λj t hj e=>?_) (λt e=>by rw[e,fG]))<|λt e=>SR ?_
   ·subst e;have hjx:ps[j]? =some ps[j]:=aP hj;refine Tc hjx ?_;obtain⟨_,_,_,_,ox,hpl⟩:=DC hu hs.can hs.lim sx sy<|cL hj
    obtain⟨y1,y2,y3⟩:=yh (A:=5000) ox.can hpl (by grind [eL,tA]) (by grind [eL,mU]);refine IT (Dn (vr ox.can) (by omega) (λb hb=>by grind) (by omega))<|TM ?_<|SR ?_
    ·grind
    grind [eA,py]
   ·subst e;refine⟨dJ++[ps],⟨by simp[D.len],by simp[D.Bt],λi r s' hi hr hs'=>?_,λi s' ps' hi hs' hps'=>?_,?_⟩,?_,?_⟩
    ·dsimp only at hs'
     by_cases hik:i<k
     ·rw[jB (by rw[D.len];exact hik)]at hs';exact D.dr i r s' hik hr hs'
     ·have:i=k:=by omega
      subst this;rw[jC (by rw[D.len];omega),D.len,Nat.sub_self]at hs';simp at hs';subst hs';rw[hkx]at hr;injection hr with hr;subst hr
      exact hs
    ·dsimp only at hs'
     by_cases hik:i<k
     ·rw[jB (by rw[D.len];exact hik)]at hs';rw[jB (by rw[D.Bt];exact hik)]at hps';exact D.pt i s' ps' hik hs' hps'
     ·have:i=k:=by omega
      subst this;rw[jC (by rw[D.len];omega),D.len,Nat.sub_self]at hs';rw[jC (by rw[D.Bt];omega),D.Bt,Nat.sub_self]at hps';simp at hs' hps';subst hs';subst hps';exact⟨u,hu⟩
    ·rw[wi,eL,dU];omega
    ·dsimp only;rw[wi,D.Bt,jE]
    ·dsimp only;rw[cO,e2,cP];constructor
     ·rintro⟨h1,h2⟩s' hs'
      rcases dD.1 hs' with h|h
      ·exact h1 s' h
      ·simp at h;subst h;exact h2
     ·intro h;exact⟨λs' hs'=>h s'<|List.mem_append_left _ hs',h s (by simp)⟩
 ·rintro⟨kp,pcs,okk⟩⟨dJ,D,e1,e2⟩;dsimp only at D e1 e2 ⊢;subst e1;refine S3 (P:=λb=>b=true↔(∀s∈kp,(aU s).length<=2000)/\(bY 0 dJ).length<=2000) (Tx (λh=>SR ?_)<|λh=>SR ?_)<|λb hb=>SR ⟨dJ,D,rfl,hb⟩
  ·rw[cP];constructor
   ·intro h';exact⟨e2.1 h,by omega⟩
   ·rintro⟨_,h'⟩;omega
  ·constructor
   ·intro h';cases h'
   ·rintro⟨h',_⟩;rw[e2.2 h']at h;cases h
end
end Go.Gk
