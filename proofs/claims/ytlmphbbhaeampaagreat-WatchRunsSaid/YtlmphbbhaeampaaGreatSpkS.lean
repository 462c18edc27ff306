/- Who speaks for whom; which commands are silent, or hidden. -/
import Derived.Test.YtlmphbbhaeampaaGreatOkS
import Derived.Test.YtlmphbbhaeampaaGreatFE
import Derived.Test.YtlmphbbhaeampaaGreatSpeakF
set_option linter.all false
namespace Go.Proofs.YtlmphbbhaeampaaGreat.A
open Go
def jd(p:Program):aW:=⟨p,allRows (MM p) p.ak.Grants⟩
abbrev Qv(p:Program)(n o:Int):Bool:=eV (MM p) p.ak.Grants n.toNat o.toNat
def JA(p:Program)(o:Int):Bool:=p.Speak.any fun n=>Qv p n o
def zn(p:Program)(l:List cp):Bool:=l.all fun x=>JA p x.Owner
def iu(p:Program)(n:Int):Var:=p.Vars.getD n.toNat ⟨false,⟨[],[]⟩⟩
def tG(p:Program)(s:Stmt):Bool:=if s.Kind=6 then !zn p (iu p s.Var).Label.Write else (mE s.Expr).any fun n=>!zn p (iu p n).Label.Read
def tH(p:Program)(s:Stmt):Bool:=if s.Kind=6 then !(iu p s.Var).Known else (mE s.Expr).any fun n=>!(iu p n).Known
variable [Lp]
def XI{β:Type}(φ:β→Option (Bool×Unit))(es:List β)(v:Nat):Option (Nat⊕(Nat⊕(Nat×Bool))):=
 if (v:Int)<(es.length:Int) then
  (es[v]?).bind fun y=>(φ y).bind fun r=>if r.1=true then some (.inr (.inl v)) else if IntKind.i64.wrap ((v:Int)+1)=((v+1:Nat):Int) then some (.inl (v+1)) else none
 else some (.inr (.inr (v,decide ((v:Int)<(es.length:Int)))))
theorem NV{β:Type}(φ:β→Option (Bool×Unit))(p:β→Bool)(es:List β)(hl:es.length≤1000)(h:∀ y∈es,φ y=some (p y,())) :
  (((lp (fun v=>XI φ es v) 0).bind fun (x1:(Nat⊕(Nat×Bool)))=>match x1 with
  | .inl z=>some ((z:Int),())
  | .inr _=>some (-1,())).bind fun (r1:Int×Unit)=>some (decide (0≤r1.1),()))=some (es.any p,()):=by
 obtain ⟨x,hx,hq⟩:=eX (B:=fun v=>XI φ es v) (fun v=>es.length - v) (fun v=>v≤es.length∧(es.take v).any p=false) (fun x=>(match x with | .inl _=>true | .inr _=>false)=es.any p) (by
  rintro v ⟨hv,hb⟩
  unfold XI
  by_cases c:v<es.length
  ·rw [af (by omega),bu c,ab,h _ (cg c),ab]
   cases hp:p es[v] with
   | true=>
    grind
   | false=>
    rw [ah (by simp),af (eQ (by omega))]
    grind [sE]
  simp_all [ah,iC]) 0 ⟨du _,by simp⟩
 rw [hx,←hq]
 cases x with
 | inl z=>simp
 | inr z=>rfl
variable {n o:Int}
theorem amB{r:List (List Bool)}{b:Bool}(h:(cU n).bind (fun i=>(r[i]?).bind fun r=>(cU o).bind fun k=>r[k]?)=some b):
  ((cU n).bind fun (j1:Nat)=>(r[j1]?).bind fun (y3:List Bool)=>(cU o).bind fun (j5:Nat)=>(y3[j5]?).bind fun (y7:Bool)=>some (y7,()))=some (b,()):=by
 grind [Option.bind_eq_some_iff]
section
variable {p:Program}(h:nz p)
include h
theorem aib(hn:de p.ak.Many n=true)(ho:de p.ak.Many o=true):(cU n).bind (fun i=>((jd p).eV[i]?).bind fun r=>(cU o).bind fun k=>r[k]?)=some (Qv p n o):=by
 grind [yN,jd,Dj,cb,MT]
theorem NX:p.Speak.length≤6:=by
 have hm:=MV h.eV
 have hf:=h.few
 omega
theorem aic(ho:de p.ak.Many o=true):nK (jd p) o=some (JA p o):=by
 have hl:=NX h
 have:=NV (fun n=>lJ n () (jd p) o) (fun n=>Qv p n o) p.Speak (by omega) fun n hn=>by
  have ha:=aib h (h.speak n hn) ho
  unfold lJ
  exact amB ha
 unfold nK
 rw [show fo (jd p).p.Speak () (jd p) o=some (p.Speak.any fun n=>Qv p n o,()) from this]
 rfl
theorem V7{l:List cp}(hl:tD p.ak.Many l=0):fU (jd p) l=some (zn p l):=by
 obtain ⟨l4,lo⟩:=yd hl
 have:=NV (fun x=>lK x () (jd p)) (fun x=>!JA p x.Owner) l (by omega) fun x hx=>by
  unfold lK
  rw [aic h (wx (lo x hx)).1];rfl
 unfold fU
 rw [show fp l () (jd p)=some (l.any fun x=>!JA p x.Owner,()) from this,ab]
 exact az some (K5 _ _)
theorem AL(h0:0≤n)(h1:n.toNat<p.Vars.length):CH (jd p) n=some (iu p n)∧iu p n∈p.Vars:=by
 have hd:iu p n=p.Vars[n.toNat]:=by grind [iu]
 unfold CH
 rw [cb h0,ab,hd]
 exact ⟨bu h1,cg h1⟩
theorem V8{s:Stmt}(hv:0≤s.Var∧s.Var<p.Vars.length)(he:eP p s.Expr=0):iV (jd p) s=some (tG p s):=by
 have a:∀ ns:List Int,(∀ n∈ns,0≤n∧n.toNat<p.Vars.length)→yk (jd p) ns=some (ns.any fun n=>!zn p (iu p n).Label.Read):=by
  intro ns
  induction ns with
  | nil=>intro _;rfl
  | cons n ns ih=>
   intro hn
   obtain ⟨h1,h2⟩:=AL h (hn n (by simp)).1 (hn n (by simp)).2
   rw [yk,h1,ab,V7 h (qx (h.vars _ h2)).1,ab,List.any_cons,ih fun m hm=>hn m (by simp [hm])]
   grind
 unfold iV tG
 split
 ·obtain ⟨h1,h2⟩:=AL h hv.1 (by omega)
  rw [h1,ab,V7 h (qx (h.vars _ h2)).2];rfl
 ·exact a _ (Qq he)
theorem V9{s:Stmt}(hv:0≤s.Var∧s.Var<p.Vars.length)(he:eP p s.Expr=0):iU (jd p) s=some (tH p s):=by
 have a:∀ ns:List Int,(∀ n∈ns,0≤n∧n.toNat<p.Vars.length)→yh (jd p) ns=some (ns.any fun n=>!(iu p n).Known):=by
  intro ns
  induction ns with
  | nil=>intro _;rfl
  | cons n ns ih=>
   grind [AL,yh]
 unfold iU tH
 split
 ·grind [AL]
 ·exact a _ (Qq he)
end
def Qw(n:Nat)(V:List Level):List Int→Level→Level
 | [],v=>v
 | k::ns,v=>Qw n V ns (o9 n v (V.getD k.toNat (jl n)))
def Zr(n:Nat)(V:List Level)(e:ay):Level:=Qw n V (mE e) (jl n)
structure K9(p:Program)(V F:List Level):Prop where
 vl:V.length=p.Vars.length
 fl:F.length=p.Funcs.length
 vs:∀ l∈V,dH (MM p) l
 fs:∀ l∈F,dH (MM p) l
variable [Lp]
theorem go_eq{p:Program}(h:nz p){vars:List Level}(hs:∀ l∈vars,dH (MM p) l):∀ (ns:List Int)(v:Level),dH (MM p) v→(∀ n∈ns,0≤n∧n.toNat<vars.length)→DV vars ns v=some (Qw (MM p) vars ns v)∧dH (MM p) (Qw (MM p) vars ns v)
 | [],v,hv,_=>⟨rfl,hv⟩
 | n::ns,v,hv,hn=>by
  obtain ⟨h0,h1⟩:=hn n (by simp)
  have hd:vars.getD n.toNat (jl (MM p))=vars[n.toNat]:=by grind
  rw [DV,cb h0,ab,bu h1,ab,K6 h.small hv (hs _ (cg h1)),ab,Qw,hd]
  exact go_eq h hs ns _ (tF _ _ _) fun m hm=>hn m (by simp [hm])
theorem Qx{p:Program}(h:nz p){V F:List Level}(hV:K9 p V F){e:ay}(he:eP p e=0):qR p V e=some (Zr (MM p) V e)∧dH (MM p) (Zr (MM p) V e):=by
 have:=go_eq h hV.vs (mE e) _ (vG (MM p)) fun n hn=>by rw [hV.vl];exact Qq he n hn
 refine ⟨?_,this.2⟩
 unfold qR
 rw [GV h,ab]
 exact this.1
end Go.Proofs.YtlmphbbhaeampaaGreat.A
