/- Who speaks for whom; which commands are silent, or hidden. -/
import Derived.Test.YtlmphbbhaeampaaGreatOkS
import Derived.Test.YtlmphbbhaeampaaGreatFE
import Derived.Test.YtlmphbbhaeampaaGreatSpeakF
set_option linter.all false
namespace Go.Proofs.YtlmphbbhaeampaaGreat.A
open Go
def iD(p:Program):aH:=⟨p,allRows (MM p) p.an.Grants⟩
abbrev Qh(p:Program)(n o:Int):Bool:=eU (MM p) p.an.Grants n.toNat o.toNat
def Qi(p:Program)(o:Int):Bool:=p.Speak.any fun n=>Qh p n o
def HY(p:Program)(l:List cb):Bool:=l.all fun x=>Qi p x.Owner
def eB(p:Program)(n:Int):Var:=p.Vars.getD n.toNat ⟨false,⟨[],[]⟩⟩
def BA(p:Program)(s:Stmt):Bool:=if s.Kind=6 then !HY p (eB p s.Var).Label.Write else (jQ s.Expr).any fun n=>!HY p (eB p n).Label.Read
def BB(p:Program)(s:Stmt):Bool:=if s.Kind=6 then !(eB p s.Var).Known else (jQ s.Expr).any fun n=>!(eB p n).Known
variable [Lp]
def Uh{β:Type}(φ:β→Option (Bool×Unit))(es:List β)(v:Nat):Option (Nat⊕(Nat⊕(Nat×Bool))):=
 if (v:Int)<(es.length:Int) then
  (es[v]?).bind fun y=>(φ y).bind fun r=>if r.1=true then some (.inr (.inl v)) else if IntKind.i64.wrap ((v:Int)+1)=((v+1:Nat):Int) then some (.inl (v+1)) else none
 else some (.inr (.inr (v,decide ((v:Int)<(es.length:Int)))))
theorem Kj{β:Type}(φ:β→Option (Bool×Unit))(p:β→Bool)(es:List β)(hl:es.length≤1000)(h:∀ y∈es,φ y=some (p y,())) :
  (((lp (fun v=>Uh φ es v) 0).bind fun (x1:(Nat⊕(Nat×Bool)))=>match x1 with
  | .inl z=>some ((z:Int),())
  | .inr _=>some (-1,())).bind fun (r1:Int×Unit)=>some (decide (0≤r1.1),()))=some (es.any p,()):=by
 obtain ⟨x,hx,hq⟩:=kT (B:=fun v=>Uh φ es v) (fun v=>es.length - v) (fun v=>v≤es.length∧(es.take v).any p=false) (fun x=>(match x with | .inl _=>true | .inr _=>false)=es.any p) (by
  rintro v ⟨hv,hb⟩
  unfold Uh
  by_cases c:v<es.length
  ·rw [af (by omega),aV c,ad,h _ (cp c),ad]
   cases hp:p es[v] with
   | true=>
    grind
   | false=>
    rw [ab (by simp),af (oK (by omega))]
    grind [oZ]
  simp_all [ab,pb]) 0 ⟨dy _,by simp⟩
 rw [hx,←hq]
 cases x with
 | inl z=>simp
 | inr z=>rfl
variable {n o:Int}
theorem afP{r:List (List Bool)}{b:Bool}(h:(cV n).bind (fun i=>(r[i]?).bind fun r=>(cV o).bind fun k=>r[k]?)=some b):
  ((cV n).bind fun (j1:Nat)=>(r[j1]?).bind fun (y3:List Bool)=>(cV o).bind fun (j5:Nat)=>(y3[j5]?).bind fun (y7:Bool)=>some (y7,()))=some (b,()):=by
 grind [Option.bind_eq_some_iff]
section
variable {p:Program}(h:nJ p)
include h
theorem adu(hn:dk p.an.Many n=true)(ho:dk p.an.Many o=true):(cV n).bind (fun i=>((iD p).eU[i]?).bind fun r=>(cV o).bind fun k=>r[k]?)=some (Qh p n o):=by
 grind [vY,iD,AN,cA,Jm]
theorem Su:p.Speak.length≤6:=by
 have hm:=E2 h.eU
 have hf:=h.few
 omega
theorem adv(ho:dk p.an.Many o=true):mP (iD p) o=some (Qi p o):=by
 have hl:=Su h
 have:=Kj (fun n=>kX n () (iD p) o) (fun n=>Qh p n o) p.Speak (by omega) fun n hn=>by
  have ha:=adu h (h.speak n hn) ho
  unfold kX
  exact afP ha
 unfold mP
 rw [show eO (iD p).p.Speak () (iD p) o=some (p.Speak.any fun n=>Qh p n o,()) from this]
 rfl
theorem Sv{l:List cb}(hl:vX p.an.Many l=0):ft (iD p) l=some (HY p l):=by
 obtain ⟨l4,lo⟩:=yJ hl
 have:=Kj (fun x=>kY x () (iD p)) (fun x=>!Qi p x.Owner) l (by omega) fun x hx=>by
  unfold kY
  rw [adv h (HT (lo x hx)).1];rfl
 unfold ft
 rw [show eP l () (iD p)=some (l.any fun x=>!Qi p x.Owner,()) from this,ad]
 exact av some (MO _ _)
theorem BC(h0:0≤n)(h1:n.toNat<p.Vars.length):CE (iD p) n=some (eB p n)∧eB p n∈p.Vars:=by
 have hd:eB p n=p.Vars[n.toNat]:=by grind [eB]
 unfold CE
 rw [cA h0,ad,hd]
 exact ⟨aV h1,cp h1⟩
theorem Sw{s:Stmt}(hv:0≤s.Var∧s.Var<p.Vars.length)(he:fK p s.Expr=0):iw (iD p) s=some (BA p s):=by
 have a:∀ ns:List Int,(∀ n∈ns,0≤n∧n.toNat<p.Vars.length)→vz (iD p) ns=some (ns.any fun n=>!HY p (eB p n).Label.Read):=by
  intro ns
  induction ns with
  | nil=>intro _;rfl
  | cons n ns ih=>
   intro hn
   obtain ⟨h1,h2⟩:=BC h (hn n (by simp)).1 (hn n (by simp)).2
   rw [vz,h1,ad,Sv h (vo (h.vars _ h2)).1,ad,List.any_cons,ih fun m hm=>hn m (by simp [hm])]
   grind
 unfold iw BA
 split
 ·obtain ⟨h1,h2⟩:=BC h hv.1 (by omega)
  rw [h1,ad,Sv h (vo (h.vars _ h2)).2];rfl
 ·exact a _ (MR he)
theorem Sx{s:Stmt}(hv:0≤s.Var∧s.Var<p.Vars.length)(he:fK p s.Expr=0):iv (iD p) s=some (BB p s):=by
 have a:∀ ns:List Int,(∀ n∈ns,0≤n∧n.toNat<p.Vars.length)→vu (iD p) ns=some (ns.any fun n=>!(eB p n).Known):=by
  intro ns
  induction ns with
  | nil=>intro _;rfl
  | cons n ns ih=>
   grind [BC,vu]
 unfold iv BB
 split
 ·grind [BC]
 ·exact a _ (MR he)
end
def FI(n:Nat)(V:List Level):List Int→Level→Level
 | [],v=>v
 | k::ns,v=>FI n V ns (eF n v (V.getD k.toNat (fc n)))
def rS(n:Nat)(V:List Level)(e:aK):Level:=FI n V (jQ e) (fc n)
structure lG(p:Program)(V F:List Level):Prop where
 vl:V.length=p.Vars.length
 fl:F.length=p.Funcs.length
 vs:∀ l∈V,cN (MM p) l
 fs:∀ l∈F,cN (MM p) l
variable [Lp]
theorem go_eq{p:Program}(h:nJ p){vars:List Level}(hs:∀ l∈vars,cN (MM p) l):∀ (ns:List Int)(v:Level),cN (MM p) v→(∀ n∈ns,0≤n∧n.toNat<vars.length)→Bw vars ns v=some (FI (MM p) vars ns v)∧cN (MM p) (FI (MM p) vars ns v)
 | [],v,hv,_=>⟨rfl,hv⟩
 | n::ns,v,hv,hn=>by
  obtain ⟨h0,h1⟩:=hn n (by simp)
  have hd:vars.getD n.toNat (fc (MM p))=vars[n.toNat]:=by grind
  rw [Bw,cA h0,ad,aV h1,ad,ua h.small hv (hs _ (cp h1)),ad,FI,hd]
  exact go_eq h hs ns _ (fx _ _ _) fun m hm=>hn m (by simp [hm])
theorem MW{p:Program}(h:nJ p){V F:List Level}(hV:lG p V F){e:aK}(he:fK p e=0):jD p V e=some (rS (MM p) V e)∧cN (MM p) (rS (MM p) V e):=by
 have:=go_eq h hV.vs (jQ e) _ (nK (MM p)) fun n hn=>by rw [hV.vl];exact MR he n hn
 refine ⟨?_,this.2⟩
 unfold jD
 rw [tu h,ad]
 exact this.1
end Go.Proofs.YtlmphbbhaeampaaGreat.A
