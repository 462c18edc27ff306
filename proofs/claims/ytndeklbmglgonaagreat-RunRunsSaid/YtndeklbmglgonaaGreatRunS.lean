/- Runs, step by step, as plain mathematics: with more fuel; with other numbers behind what is taken. -/
import Derived.Test.YtndeklbmglgonaaGreatScopeS
set_option linter.unusedSectionVars false
set_option linter.unusedVariables false
set_option linter.unusedSimpArgs false
namespace Go.Proofs.YtndeklbmglgonaaGreat.A
open Go
inductive Tk where
 | run (l:List Stmt) (a:Int)
 | leave (s:Stmt)
structure Ctx where
 p:Program
 ins:List (List Int)
 fuel:Int
 first:List Int
abbrev mL:=List Tk×RunT
def RunT.tick(r:RunT):RunT:=⟨r.Events,r.Vars,r.Taken,r.Steps+1,r.End,r.Stop⟩
def RunT.out(r:RunT):RunT:=⟨r.Events,r.Vars,r.Taken,r.Steps,2,r.Stop⟩
def RunT.iP(r:RunT)(vs:List Int):RunT:=⟨r.Events,vs,r.Taken,r.Steps,r.End,r.Stop⟩
def RunT.ev(r:RunT)(e:Event):RunT:=⟨r.Events++[e],r.Vars,r.Taken,r.Steps,r.End,r.Stop⟩
def RunT.set(r:RunT)(n x:Int):RunT:=r.iP (r.Vars.set n.toNat x)
def nth(l:List Int)(k:Int):Int:=l.getD k.toNat 0
def uz(l:List (List Int))(k:Int):List Int:=l.getD k.toNat []
def wD(X:Ctx)(s:Stmt)(a:Int)(r:RunT):RunT:=
 if s.Kind=3 then ⟨r.Events,r.Vars.set s.Var.toNat (nth (uz X.ins s.Other) (nth r.Taken s.Other)),r.Taken.set s.Other.toNat (nth r.Taken s.Other+1),r.Steps,r.End,r.Stop⟩
 else if s.Kind=4 then r.ev ⟨1,a,s.Other,bK r.Vars s.Expr⟩
 else if s.Kind=5 then (r.set s.Var (bK r.Vars s.Expr)).ev ⟨2,a,s.Var,bK r.Vars s.Expr⟩
 else if s.Kind=6 then (r.set s.Var (bK r.Vars s.Expr)).ev ⟨3,a,s.Var,bK r.Vars s.Expr⟩
 else r.set s.Var (bK r.Vars s.Expr)
def oj:List Int→List Int→List Int→List Int
 | vs,n::ps,x::xs=>oj (vs.set n.toNat x) ps xs
 | vs,_,_=>vs
def dK(X:Ctx)(s:Stmt):Func:=(X.p.Funcs[s.Other.toNat]?).getD ⟨[],[],⟨0,0,[]⟩⟩
def mM(X:Ctx)(s:Stmt)(r:RunT):RunT:=r.iP (oj r.Vars (dK X s).Params (s.Args.map (bK r.Vars)))
def s5(X:Ctx)(s:Stmt)(r:RunT):RunT:=r.set s.Var (bK r.Vars (dK X s).Result)
def fS(X:Ctx)(s:Stmt)(a:Int)(l:List Stmt)(K:List Tk)(r:RunT):mL:=
 if s.Kind=2 then (.run (dK X s).Body (nth X.first s.Other)::.leave s::.run l (a+eh s)::K,mM X s r)
 else if s.Kind=7 then (.run (if bK r.Vars s.Expr≠0 then s.Then else s.Else) (if bK r.Vars s.Expr≠0 then a+1 else a+1+aZ s.Then)::.run l (a+eh s)::K,r)
 else if s.Kind=8 then (if bK r.Vars s.Expr≠0 then (.run s.Then (a+1)::.run (s::l) a::K,r) else (.run l (a+eh s)::K,r))
 else (.run l (a+eh s)::K,wD X s a r)
def l4(X:Ctx):mL→mL
 | ([],r)=>([],r)
 | (.leave s::K,r)=>(K,s5 X s r)
 | (.run [] _::K,r)=>(K,r)
 | (.run (s::l) a::K,r)=>if r.Steps=X.fuel then ([],r.out) else fS X s a l K r.tick
def iter(X:Ctx):Nat→mL→mL
 | 0,c=>c
 | n+1,c=>iter X n (l4 X c)
theorem vS(X:Ctx):∀ (n m:Nat)(c:mL),iter X (n+m) c=iter X m (iter X n c)
 | 0,m,c=>by rw [Nat.zero_add];rfl
 | n+1,m,c=>by rw [show n+1+m=(n+m)+1 by omega];exact vS X n m (l4 X c)
theorem A8(X:Ctx)(r:RunT):∀ n,iter X n ([],r)=([],r)
 | 0=>rfl
 | n+1=>A8 X r n
def cz(X:Ctx)(c d:mL):Prop:=∃ n,iter X n c=d
theorem cz.refl(X:Ctx)(c:mL):cz X c c:=⟨0,rfl⟩
theorem cz.trans{X:Ctx}{c d e:mL} : cz X c d→cz X d e→cz X c e
 | ⟨n,h⟩,⟨m,h'⟩=>⟨n+m,by rw [vS,h,h']⟩
theorem cz.one{X:Ctx}{c d:mL}(h:l4 X c=d):cz X c d:=⟨1,h⟩
theorem cz.rf{X:Ctx}{c:mL}{r s:RunT} : cz X c ([],r)→cz X c ([],s)→r=s
 | ⟨n,h⟩,⟨m,h'⟩=>by
  rcases Nat.le_total n m with hm | hm
  ·obtain ⟨k,rfl⟩:=Nat.exists_eq_add_of_le hm
   rw [vS,h,A8] at h'
   exact (Prod.mk.inj h').2
  ·obtain ⟨k,rfl⟩:=Nat.exists_eq_add_of_le hm
   rw [vS,h',A8] at h
   exact (Prod.mk.inj h).2.symm
theorem DP(X:Ctx)(s:Stmt)(a:Int)(l:List Stmt)(K:List Tk)(r:RunT) :
  (fS X s a l K r).2.End=r.End∧(fS X s a l K r).2.Steps=r.Steps∧(∃ es,(fS X s a l K r).2.Events=r.Events++es)∧(fS X s a l K r).1≠[]:=by
 unfold fS
 split
 ·exact ⟨rfl,rfl,⟨[],by simp [mM,RunT.iP]⟩,by simp⟩
 split
 ·exact ⟨rfl,rfl,⟨[],by simp⟩,by simp⟩
 split
 ·split
  ·exact ⟨rfl,rfl,⟨[],by simp⟩,by simp⟩
  ·exact ⟨rfl,rfl,⟨[],by simp⟩,by simp⟩
 ·refine ⟨?_,?_,?_,by simp⟩
  ·unfold wD;repeat' split
   all_goals rfl
  ·unfold wD;repeat' split
   all_goals rfl
  ·unfold wD
   repeat' split
   ·exact ⟨[],by simp⟩
   ·exact ⟨_,rfl⟩
   ·exact ⟨_,rfl⟩
   ·exact ⟨_,rfl⟩
   ·exact ⟨[],by simp [RunT.set,RunT.iP]⟩
theorem IQ{X:Ctx}{c:mL}(h:c.2.Steps≤X.fuel):(l4 X c).2.Steps≤X.fuel:=by
 obtain ⟨ts,r⟩:=c
 match ts with
 | []=>exact h
 | .leave s::K=>exact h
 | .run [] _::K=>exact h
 | .run (s::l) a::K=>
  simp only [l4]
  split
  ·exact h
  ·rename_i hne
   rw [(DP X s a l K r.tick).2.1]
   have:r.Steps≤X.fuel:=h
   show r.Steps+1≤X.fuel
   omega
def Comes(X:Ctx)(c:mL)(r:RunT):Prop:=(∃ q:RunT,cz X c ([],q)∧q.End=0∧r=⟨q.Events,q.Vars,q.Taken,q.Steps,1,q.Stop⟩)∨(cz X c ([],r)∧r.End=2)
end Go.Proofs.YtndeklbmglgonaaGreat.A
