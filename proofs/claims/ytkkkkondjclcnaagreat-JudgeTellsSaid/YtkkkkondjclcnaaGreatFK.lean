/- Functions of the program as plain functions, by program. -/
import Derived.Test.YtkkkkondjclcnaaGreatTypes
import Derived.Test.YtkkkkondjclcnaaGreatBase
import Derived.Test.YtkkkkondjclcnaaGreatJudgeF
import Derived.Test.YtkkkkondjclcnaaGreatRFlt
import Derived.Test.YtkkkkondjclcnaaGreatFR
set_option linter.all false
set_option maxRecDepth 100000
namespace Go.Proofs.YtkkkkondjclcnaaGreat.A
open Go
noncomputable section
variable [Lp]
section
variable (a0:Program)
abbrev Ma(a0:Program)(r:((List dw)×Int)):bH×HP:=(.ret (.tp [(.l 133 (r.1.map jc)),(I r.2)]),H0)
def tQ:Option ((List dw)×Int):=
 (uG a0).bind fun r1=>
 if (r1 !=0)=true then
  some (([]:List dw),r1)
 else
  (uy a0).bind fun r4=>
  some (r4,0)
theorem zD(r:((List dw)×Int))(h:tQ a0=some r):call G Ω0 E0 28 [(.a (av a0))] H0=some (Ma a0 r):=
 bu G28 (bt<|xI fun r1=>oN (bt<|.ex fun (r4:(List dw))=>ao (.v (dH r4))<|.nil)) fun L=>vX<|bJ h (IG a0) fun r1 h=>cG h (fun h3 h=>ai h3<|L h) (fun h3 h=>oY h3<|bJ h (L9 a0) fun r4 h=>L h)
abbrev P6(a0:Program)(r:(Bool×Int)):bH×HP:=(.ret (.tp [(.b r.1),(I r.2)]),H0)
def Br:Option (Bool×Int):=
 (tQ a0).bind fun r1=>
 if (r1.2==0)=true then
  some (((r1.1.length:Int)==0),r1.2)
 else
  some (false,r1.2)
theorem KJ(r:(Bool×Int))(h:Br a0=some r):call G Ω0 E0 29 [(.a (av a0))] H0=some (P6 a0 r):=
 bu G29 (bt<|.ex fun (r1:((List dw)×Int))=>ao (.v (.tp [(dH r1.1),(I r1.2)]))<|.or (fN<|ao (.i (r1.1.length:Int))<|fN<|.nil) (UC<|.nil)) fun L=>vX<|bJ h (zD a0) fun r1 h=>cG h (fun h3 h=>cu h3<|ai (aJ jc r1.1)<|nB h3<|L h) (fun h3 h=>FQ h3<|L h)
end
end
noncomputable section
variable [Lp]
section
variable (r3:(Bool×Int))(r5:Int)(d:(List dw))(r1:((List dw)×Int))(a0:Program)
def zE:List de:=(gM 41 40)::⟨some 42,.mv 5,some ⟨41,true⟩,false⟩::⟨some 43,.mv 7,some ⟨41,true⟩,false⟩::⟨some 44,.bo .eql false 43 (kI 0),some ⟨41,true⟩,false⟩::⟨some 45,.mv 44,some ⟨41,true⟩,false⟩::⟨some 46,.mv 8,some ⟨45,true⟩,false⟩::⟨some 47,.ln false 46,some ⟨45,true⟩,false⟩::⟨some 48,.bo .eql false 47 (kI 0),some ⟨45,true⟩,false⟩::⟨some 49,.pk 45 48 (.c (.b false)),some ⟨41,true⟩,false⟩::⟨some 50,.bo .eql true 42 49,some ⟨41,true⟩,false⟩::(gk 51 41 50 (.c (.b false)))::(gA 2 51)::[]
def iN(t:Bool):Option Bool:=
 if t=true then
  if (r5==0)=true then
   some (r3.1==((d.length:Int)==0))
  else
   some (r3.1==false)
 else
  some false
abbrev lV(x:Bool):St:=⟨[(2,(.b x))],[],H0⟩
theorem ou(r3:(Bool×Int))(r5:Int)(d:(List dw))(e:Bool)(t:Bool)(w:List AV)(x:Bool)(h:iN r3 r5 d t=some x):uc G Ω0 E0 [2] [] zE ⟨[(40,(.b t)),(39,(W w 0)),(38,(W w 1)),(37,(W w 2)),(36,(W w 3)),(35,(W w 4)),(34,(W w 5)),(33,(W w 6)),(32,(W w 7)),(31,(W w 8)),(30,(W w 9)),(29,(W w 10)),(28,(W w 11)),(27,(W w 12)),(26,(.b e)),(25,(.b e)),(3,(dH r1.1)),(4,(I r1.2)),(5,(.b r3.1)),(6,(I r3.2)),(7,(I r5)),(8,(dH d))],[],H0⟩=some (lV x):=
 ur (.or (rz<|.or (fN<|ao (.i (d.length:Int))<|wP<|.nil) (bf<|bf<|bf<|bt<|bf<|bt<|bt<|.nil)) (Wn<|.nil)) fun L=>cG h (fun j h=>cu j<|cu j<|cG h (fun z h=>cu z<|ai (aJ jc d)<|ai (g1 z)<|ai (g1 j)<|ai z<|nB j<|L h) (fun z h=>Rr z<|ai (g1 j)<|ai z<|nB j<|L h)) (fun j h=>cu j<|cu j<|cu j<|ai j<|L h)
def HN:List de:=(gp 25 (.ca 1 31 []))::(gM 26 25)::⟨some 27,.mv 4,some ⟨26,true⟩,false⟩::⟨some 28,.mv 7,some ⟨26,true⟩,false⟩::⟨some 29,.bo .eql false 27 28,some ⟨26,true⟩,false⟩::(gk 30 26 29 (.c (.b false)))::(gM 31 30)::⟨some 32,.mv 3,some ⟨31,true⟩,false⟩::⟨some 33,.mv 8,some ⟨31,true⟩,false⟩::⟨some 34,.ca 0 32 [32,33],some ⟨31,true⟩,false⟩::(gk 35 31 34 (.c (.b false)))::(gM 36 35)::⟨some 37,.mv 6,some ⟨36,true⟩,false⟩::⟨some 38,.mv 7,some ⟨36,true⟩,false⟩::⟨some 39,.bo .eql false 37 38,some ⟨36,true⟩,false⟩::(gk 40 36 39 (.c (.b false)))::zE
def oT(r3:(Bool×Int))(r5:Int)(d:(List dw)):Option Bool:=
 (JA).bind fun e=>
 if e=true then
  if (r1.2==r5)=true then
   (tN r1.1 d).bind fun u=>
   if u=true then
    (iN r3 r5 d (r3.2==r5)).bind fun n=>
    some n
   else
    (iN r3 r5 d false).bind fun n=>
    some n
  else
   (iN r3 r5 d false).bind fun D=>
   some D
 else
  (iN r3 r5 d false).bind fun E=>
  some E
abbrev zF(x:Bool):St:=⟨[(2,(.b x))],[],H0⟩
theorem GK(r3:(Bool×Int))(r5:Int)(d:(List dw))(x:Bool)(h:oT r1 r3 r5 d=some x):uc G Ω0 E0 [2] [] HN ⟨[(3,(dH r1.1)),(4,(I r1.2)),(5,(.b r3.1)),(6,(I r3.2)),(7,(I r5)),(8,(dH d))],[],H0⟩=some (zF x):=
 ur (xB fun e=>.or (rz<|.or (ja<|xB fun u=>bt<|.or (rz<|.jb (some 41) 11<|.ex fun (n:Bool)=>ao (.jn (lV n))<|.nil) (UC<|.jb (some 41) 11<|.ex fun (n:Bool)=>ao (.jn (lV n))<|.nil)) (bf<|bf<|bf<|bf<|bf<|bf<|bf<|bf<|.jb (some 41) 11<|.ex fun (D:Bool)=>ao (.jn (lV D))<|.nil)) (bf<|bf<|bf<|bf<|bf<|bf<|bf<|bf<|bf<|bf<|bf<|bf<|.jb (some 41) 11<|.ex fun (E:Bool)=>ao (.jn (lV E))<|.nil)) fun L=>cn h fun e y h=>have y:Ω0 31 []=some (.b e):=UA y;ai y<|cG h (fun F h=>FQ F<|cG h (fun C h=>Rr C<|bJ h (HM r1.1 d) fun u h=>ai C<|cG h (fun H h=>FQ H<|bJ h (ou r1 r3 r5 d e (r3.2==r5) [(.b (r3.2==r5)),(I r5),(I r3.2),(.b u),(.b u),(.b u),(dH d),(dH r1.1),(.b (r1.2==r5)),(.b (r1.2==r5)),(.b (r1.2==r5)),(I r5),(I r1.2)]) fun n h=>L h) (fun H h=>FQ H<|bJ h (ou r1 r3 r5 d e false [.sk,.sk,.sk,(.b u),(.b u),(.b u),(dH d),(dH r1.1),(.b (r1.2==r5)),(.b (r1.2==r5)),(.b (r1.2==r5)),(I r5),(I r1.2)]) fun n h=>L h)) (fun C h=>cu C<|nB C<|ai gf<|ai gf<|ai gf<|ai ff<|bJ h (ou r1 r3 r5 d e false [.sk,.sk,.sk,(.b false),(.b false),.sk,.sk,.sk,(.b (r1.2==r5)),(.b (r1.2==r5)),(.b (r1.2==r5)),(I r5),(I r1.2)]) fun D h=>L h)) (fun F h=>cu F<|nB F<|ai gf<|ai gf<|ai gf<|ai ff<|ai gf<|ai gf<|ai gf<|ai ff<|bJ h (ou r1 r3 r5 d e false [.sk,.sk,.sk,(.b false),(.b false),.sk,.sk,.sk,(.b false),(.b false),.sk,.sk,.sk]) fun E h=>L h)
def lW(r3:(Bool×Int))(r5:Int)(d:(List dw)):Option Bool:=
 (oT r1 r3 r5 d).bind fun o=>
 some o
abbrev uh(x:Bool):aN×St:=(.ret,⟨[(2,(.b x))],[],H0⟩)
theorem yZ(r3:(Bool×Int))(r5:Int)(d:(List dw))(x:Bool)(h:lW r1 r3 r5 d=some x):run G Ω0 E0 aaw ⟨[(3,(dH r1.1)),(4,(I r1.2)),(5,(.b r3.1)),(6,(I r3.2)),(7,(I r5)),(8,(dH d))],[],H0⟩=some (uh x):=
 NY (.jb (some 25) 27<|.ex fun (o:Bool)=>ao (.jn (zF o))<|.nil) fun L=>bJ h (GK r1 r3 r5 d) fun o h=>L h
abbrev Mb(a0:Program)(r:Bool):bH×HP:=(.ret (.b r),H0)
def xY:Option Bool:=
 (tQ a0).bind fun r1=>
 (Br a0).bind fun r3=>
 (qy a0).bind fun r5=>
 if (r5==0)=true then
  (sT a0).bind fun r8=>
  (lW r1 r3 r5 r8).bind fun o=>
  some o
 else
  (lW r1 r3 r5 ([]:List dw)).bind fun x8=>
  some x8
theorem HO(r:Bool)(h:xY a0=some r):call G Ω0 E0 5 [(.a (av a0))] H0=some (Mb a0 r):=
 bu G5 (bt<|.ex fun (r1:((List dw)×Int))=>ao (.v (.tp [(dH r1.1),(I r1.2)]))<|bt<|.ex fun (r3:(Bool×Int))=>ao (.v (.tp [(.b r3.1),(I r3.2)]))<|bt<|xI fun r5=>.or (fN<|.ex fun (r8:(List dw))=>ao (.v (dH r8))<|.fb<|.ex fun (o:Bool)=>ao (.wO (uh o))<|.nil) (bf<|.fb<|.ex fun (x8:Bool)=>ao (.wO (uh x8))<|.nil)) fun L=>vX<|bJ h (zD a0) fun r1 h=>ai (rfl:Z0)<|bJ h (KJ a0) fun r3 h=>ai (rfl:Z0)<|bJ h (Ff a0) fun r5 h=>cG h (fun h7 h=>oY h7<|bJ h (KI a0) fun r8 h=>bJ h (yZ r1 r3 r5 r8) fun o h=>L h) (fun h7 h=>ai h7<|bJ h (yZ r1 r3 r5 ([]:List dw)) fun x8 h=>L h)
end
end
variable [Lp]
theorem YX{α β:Type}(g:α→List β)(hg:∀ x,(g x).length≤5):∀ L:List α,(L.flatMap g).length≤5*L.length
 | []=>by simp
 | x::L=>by
  have h1:=hg x
  have h2:=YX g hg L
  rw [uY,eK,cC];omega
theorem KK(l:List dw)(hl:l.length≤1000000):tN l l=some true:=by
 unfold tN
 rw [aa (by simp)]
 have q:=uq (B:=fun v=>k9 l l v) l.length id (x:=.inr (l.length,false))
  (fun k hk=>by simp [k9,hk,gJ k (by omega)])
  (by simp [k9])
 have q':lp (fun v=>k9 l l v) 0=_:=q
 rw [q',ad]
theorem Mc(p:Program)(hp:∀ f∈p.Funcs,f.Params.length≤9223372036854775807):xY p=some true:=by
 have hc:=WH hp
 have hr:=aku hp
 unfold xY Br tQ
 rw [hc,hr]
 by_cases h0:sB p=0
 ·have h:=Pp h0
  have ho:=CJ h0
  obtain ⟨m,m1,m2,m3⟩:=M1 h ho
  have hj:=Q4 h ho m1 m3
  have hf:=Z7 h0 m2
  have hlen:((tP p m).map kj).length≤1000000:=by
   rw [eY]
   have h1:=Ad h ho m3
   have h2:=YX (fun x:A6=>jd p m.Vars x.s x.a x.pl) (fun x=>EF _ _ _ _ _) (nq (MM p) m.Vars p m.Funcs)
   unfold tP;omega
  have J:uy p=some ((tP p m).map kj):=hj
  have hs:=KK _ hlen
  generalize (tP p m).map kj=l at hf J hs
  rw [h0,hf,J]
  simp [lW,oT,iN,JA,hs]
 ·have hs:=KK [] (by simp)
  simp [h0,lW,oT,iN,JA,hs]
end Go.Proofs.YtkkkkondjclcnaaGreat.A
