/- Who speaks for whom; which commands are silent, or hidden. -/
import Derived.Test.YtkkkkondjclcnaaGreatOkS
import Derived.Test.YtkkkkondjclcnaaGreatFJ
import Derived.Test.YtkkkkondjclcnaaGreatSpeakF
set_option linter.unusedSectionVars false
set_option linter.unusedVariables false
set_option linter.unusedSimpArgs false
set_option linter.constructorNameAsVariable false
namespace Go.Proofs.YtkkkkondjclcnaaGreat.A
open Go
def nj(p:Program):aA:=⟨p,allRows (MM p) p.aa.Grants⟩
abbrev Cp(p:Program)(n o:Int):Bool:=eG (MM p) p.aa.Grants n.toNat o.toNat
def LB(p:Program)(o:Int):Bool:=p.Speak.any fun n=>Cp p n o
def sX(p:Program)(w:Int):Bool:=p.Speak.any fun n=>Cp p w n
def Ax(p:Program)(l:List aD):Bool:=l.all fun x=>LB p x.Owner
def uq(p:Program)(n:Int):Var:=p.Vars.getD n.toNat ⟨false,⟨[],[]⟩⟩
def Bn(p:Program)(s:Stmt):Bool:=if s.Kind=6 then !Ax p (uq p s.Var).Label.Write else (lW s.Expr).any fun n=>!Ax p (uq p n).Label.Read
def Bo(p:Program)(s:Stmt):Bool:=if s.Kind=6 then !(uq p s.Var).Known else (lW s.Expr).any fun n=>!(uq p n).Known
def yW(p:Program)(l:Level):Bool:=(List.range (MM p)).any fun k=>on l.Writers k&&!sX p k
variable [Lp]
def PH{β:Type}(φ:β→Option (Bool×Unit))(es:List β)(v:Nat):Option (Nat⊕(Nat⊕(Nat×Bool))):=
 if (v:Int)<(es.length:Int) then
  (es[v]?).bind fun y=>(φ y).bind fun r=>if r.1=true then some (.inr (.inl v)) else if IntKind.i64.wrap ((v:Int)+1)=((v+1:Nat):Int) then some (.inl (v+1)) else none
 else some (.inr (.inr (v,decide ((v:Int)<(es.length:Int)))))
theorem Ay{β:Type}(φ:β→Option (Bool×Unit))(p:β→Bool)(es:List β)(hl:es.length≤1000)(h:∀ y∈es,φ y=some (p y,())) :
  (((lp (fun v=>PH φ es v) 0).bind fun (x1:(Nat⊕(Nat×Bool)))=>match x1 with
  | .inl z=>some ((z:Int),())
  | .inr _=>some (-1,())).bind fun (r1:Int×Unit)=>some (decide (0≤r1.1),()))=some (es.any p,()):=by
 obtain ⟨x,hx,hq⟩:=oX (B:=fun v=>PH φ es v) (fun v=>es.length - v) (fun v=>v≤es.length∧(es.take v).any p=false) (fun x=>(match x with | .inl _=>true | .inr _=>false)=es.any p) (by
  rintro v ⟨hv,hb⟩
  unfold PH
  by_cases hlt:v<es.length
  ·rw [if_pos (by omega),List.getElem?_eq_getElem hlt,Option.bind_some,h _ (List.getElem_mem hlt),Option.bind_some]
   cases hp:p es[v] with
   | true=>
    rw [if_pos rfl]
    exact .inl ⟨_,rfl,(List.any_eq_true.2 ⟨_,List.getElem_mem hlt,hp⟩).symm⟩
   | false=>
    rw [if_neg (by simp),if_pos (lP (by omega))]
    exact .inr ⟨_,rfl,⟨hlt,by rw [tO hlt,List.any_append,hb];simp [hp]⟩,by omega⟩
  ·rw [if_neg (by omega)]
   refine .inl ⟨_,rfl,?_⟩
   rw [List.take_of_length_le (by omega)] at hb
   exact hb.symm) 0 ⟨Nat.zero_le _,by simp⟩
 rw [hx,←hq]
 cases x with
 | inl z=>simp
 | inr z=>rfl
theorem QT{r:List (List Bool)}{n o:Int}{b:Bool}(h:(dG n).bind (fun i=>(r[i]?).bind fun r=>(dG o).bind fun k=>r[k]?)=some b) :
  ((dG n).bind fun (j1:Nat)=>(r[j1]?).bind fun (y3:List Bool)=>(dG o).bind fun (j5:Nat)=>(y3[j5]?).bind fun (y7:Bool)=>some (y7,()))=some (b,()):=by
 obtain ⟨i,hi,h⟩:=Option.bind_eq_some_iff.1 h
 obtain ⟨q,hq,h⟩:=Option.bind_eq_some_iff.1 h
 obtain ⟨k,hk,h⟩:=Option.bind_eq_some_iff.1 h
 rw [hi,Option.bind_some,hq,Option.bind_some,hk,Option.bind_some,h];rfl
section
variable {p:Program}(h:pV p)
include h
theorem Nk{n o:Int}(hn:ct p.aa.Many n=true)(ho:ct p.aa.Many o=true):(dG n).bind (fun i=>((nj p).eG[i]?).bind fun r=>(dG o).bind fun k=>r[k]?)=some (Cp p n o):=by
 have hm:=sP h.eG
 obtain ⟨n1,n2⟩:=qE.1 hn
 obtain ⟨o1,o2⟩:=qE.1 ho
 have hMM:((MM p:Nat):Int)=p.aa.Many:=Int.toNat_of_nonneg (by omega)
 have hr:(nj p).eG[n.toNat]? =some (eT (MM p) p.aa.Grants n.toNat):=xt (by omega)
 rw [eb n1,Option.bind_some,hr,Option.bind_some,eb o1,Option.bind_some,EE (by omega)]
theorem FF:p.Speak.length≤6:=by
 have hm:=sP h.eG
 have hf:=h.few
 omega
theorem Vr{o:Int}(ho:ct p.aa.Many o=true):kH (nj p) o=some (LB p o):=by
 have hl:=FF h
 have:=Ay (fun n=>iW n () (nj p) o) (fun n=>Cp p n o) p.Speak (by omega) fun n hn=>by
  have ha:=Nk h (h.speak n hn) ho
  unfold iW
  exact QT ha
 unfold kH
 rw [show di (nj p).p.Speak () (nj p) o=some (p.Speak.any fun n=>Cp p n o,()) from this]
 rfl
theorem LC{w:Int}(hw:ct p.aa.Many w=true):gJ (nj p) w=some (sX p w):=by
 have hl:=FF h
 have:=Ay (fun n=>fC n () (nj p) w) (fun n=>Cp p w n) p.Speak (by omega) fun n hn=>by
  have ha:=Nk h hw (h.speak n hn)
  unfold fC
  exact QT ha
 unfold gJ
 rw [show cN (nj p).p.Speak () (nj p) w=some (p.Speak.any fun n=>Cp p w n,()) from this]
 rfl
theorem Nl{l:List aD}(hl:qX p.aa.Many l=0):dP (nj p) l=some (Ax p l):=by
 obtain ⟨l4,lo⟩:=sL hl
 have:=Ay (fun x=>iX x () (nj p)) (fun x=>!LB p x.Owner) l (by omega) fun x hx=>by
  unfold iX
  rw [Vr h (yL (lo x hx)).1];rfl
 unfold dP
 rw [show dj l () (nj p)=some (l.any fun x=>!LB p x.Owner,()) from this,Option.bind_some]
 exact congrArg some (HJ _ _)
theorem LD{l:Level}(hs:bz (MM p) l):gK (nj p) l=some (yW p l):=by
 have hm:=sP h.eG
 have hMM:((MM p:Nat):Int)=p.aa.Many:=Int.toNat_of_nonneg (by omega)
 have hw:=hs.2
 obtain ⟨x,hx,hq⟩:=oX (B:=fun v=>fD (nj p) l v) (fun v=>l.Writers.length - v) (fun v=>v≤l.Writers.length∧∀ k,k<v→(on l.Writers k&&!sX p k)=false) (fun x=>(match x with | .inl _=>true | .inr _=>false)=yW p l) (by
  rintro v ⟨hv,hb⟩
  unfold fD
  by_cases hlt:v<l.Writers.length
  ·have hwr:=lP (k:=v) (by omega)
   rw [if_pos (by omega),List.getElem?_eq_getElem hlt,Option.bind_some]
   have hon:on l.Writers v=l.Writers[v]:=by unfold on;rw [List.getD_eq_getElem?_getD,List.getElem?_eq_getElem hlt];rfl
   have ht:=LC h (w:=(v:Int)) (qE.2 ⟨by omega,by omega⟩)
   have next:(on l.Writers v&&!sX p v)=false→v+1≤l.Writers.length∧∀ k,k<v+1→(on l.Writers k&&!sX p k)=false:=fun hf=>⟨hlt,fun k hk=>by
    by_cases hkv:k=v
    ·subst hkv;exact hf
    ·exact hb k (by omega)⟩
   cases hy:l.Writers[v] with
   | false=>
    rw [if_neg (by simp),if_pos hwr]
    exact .inr ⟨_,rfl,next (by rw [hon,hy];rfl),by omega⟩
   | true=>
    rw [if_pos rfl,ht,Option.bind_some]
    cases htr:sX p v with
    | true=>
     rw [if_pos rfl,if_pos hwr]
     exact .inr ⟨_,rfl,next (by rw [htr];simp),by omega⟩
    | false=>
     rw [if_neg (by simp)]
     refine .inl ⟨_,rfl,?_⟩
     refine (List.any_eq_true.2 ⟨v,List.mem_range.2 (by omega),?_⟩).symm
     rw [hon,hy,htr];rfl
  ·rw [if_neg (by omega)]
   refine .inl ⟨_,rfl,?_⟩
   refine (List.any_eq_false.2 fun k hk=>?_).symm
   rw [hb k (by have:=List.mem_range.1 hk;omega)];simp) 0 ⟨Nat.zero_le _,fun k hk=>absurd hk (by omega)⟩
 unfold gK
 rw [hx,←hq]
 cases x<;>rfl
theorem Bp{n:Int}(h0:0≤n)(h1:n.toNat<p.Vars.length):Bm (nj p) n=some (uq p n)∧uq p n∈p.Vars:=by
 have hd:uq p n=p.Vars[n.toNat]:=by unfold uq;rw [List.getD_eq_getElem?_getD,List.getElem?_eq_getElem h1];rfl
 unfold Bm
 rw [eb h0,Option.bind_some,hd]
 exact ⟨List.getElem?_eq_getElem h1,List.getElem_mem h1⟩
theorem Nn{s:Stmt}(hv:0≤s.Var∧s.Var<p.Vars.length)(he:cq p s.Expr=0):dK (nj p) s=some (Bn p s):=by
 have hgo:∀ ns:List Int,(∀ n∈ns,0≤n∧n.toNat<p.Vars.length)→sV (nj p) ns=some (ns.any fun n=>!Ax p (uq p n).Label.Read):=by
  intro ns
  induction ns with
  | nil=>intro _;rfl
  | cons n ns ih=>
   intro hn
   obtain ⟨h1,h2⟩:=Bp h (hn n (by simp)).1 (hn n (by simp)).2
   rw [sV,h1,Option.bind_some,Nl h (sM (h.vars _ h2)).1,Option.bind_some,List.any_cons,ih fun m hm=>hn m (by simp [hm])]
   cases Ax p (uq p n).Label.Read<;>rfl
 unfold dK Bn
 split
 ·obtain ⟨h1,h2⟩:=Bp h hv.1 (by omega)
  rw [h1,Option.bind_some,Nl h (sM (h.vars _ h2)).2];rfl
 ·exact hgo _ (HM he)
theorem No{s:Stmt}(hv:0≤s.Var∧s.Var<p.Vars.length)(he:cq p s.Expr=0):dJ (nj p) s=some (Bo p s):=by
 have hgo:∀ ns:List Int,(∀ n∈ns,0≤n∧n.toNat<p.Vars.length)→sT (nj p) ns=some (ns.any fun n=>!(uq p n).Known):=by
  intro ns
  induction ns with
  | nil=>intro _;rfl
  | cons n ns ih=>
   intro hn
   obtain ⟨h1,h2⟩:=Bp h (hn n (by simp)).1 (hn n (by simp)).2
   rw [sT,h1,Option.bind_some,List.any_cons,ih fun m hm=>hn m (by simp [hm])]
   cases (uq p n).Known<;>rfl
 unfold dJ Bo
 split
 ·obtain ⟨h1,h2⟩:=Bp h hv.1 (by omega)
  rw [h1];rfl
 ·exact hgo _ (HM he)
end
end Go.Proofs.YtkkkkondjclcnaaGreat.A
