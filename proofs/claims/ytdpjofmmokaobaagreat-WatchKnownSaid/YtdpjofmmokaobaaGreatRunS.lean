/- Runs, step by step, as plain mathematics: with more fuel; with other numbers behind what is taken. -/
import Derived.Test.YtdpjofmmokaobaaGreatScopeS
set_option linter.unusedSectionVars false
set_option linter.unusedVariables false
set_option linter.unusedSimpArgs false
namespace Go.Proofs.YtdpjofmmokaobaaGreat.A
open Go
inductive Tk where
 | run (l:List Stmt) (a:Int)
 | leave (s:Stmt)
structure Ctx where
 p:Program
 ins:List (List Int)
 fuel:Int
 first:List Int
abbrev mD:=List Tk×RunT
def RunT.tick(r:RunT):RunT:=⟨r.Events,r.Vars,r.Taken,r.Steps+1,r.End,r.Stop⟩
def RunT.out(r:RunT):RunT:=⟨r.Events,r.Vars,r.Taken,r.Steps,2,r.Stop⟩
def RunT.jj(r:RunT)(vs:List Int):RunT:=⟨r.Events,vs,r.Taken,r.Steps,r.End,r.Stop⟩
def RunT.ev(r:RunT)(e:Event):RunT:=⟨r.Events++[e],r.Vars,r.Taken,r.Steps,r.End,r.Stop⟩
def RunT.set(r:RunT)(n x:Int):RunT:=r.jj (r.Vars.set n.toNat x)
def nth(l:List Int)(k:Int):Int:=l.getD k.toNat 0
def AU(l:List (List Int))(k:Int):List Int:=l.getD k.toNat []
def B7(X:Ctx)(s:Stmt)(a:Int)(r:RunT):RunT:=
 if s.Kind=3 then ⟨r.Events,r.Vars.set s.Var.toNat (nth (AU X.ins s.Other) (nth r.Taken s.Other)),r.Taken.set s.Other.toNat (nth r.Taken s.Other+1),r.Steps,r.End,r.Stop⟩
 else if s.Kind=4 then r.ev ⟨1,a,s.Other,dL r.Vars s.Expr⟩
 else if s.Kind=5 then (r.set s.Var (dL r.Vars s.Expr)).ev ⟨2,a,s.Var,dL r.Vars s.Expr⟩
 else if s.Kind=6 then (r.set s.Var (dL r.Vars s.Expr)).ev ⟨3,a,s.Var,dL r.Vars s.Expr⟩
 else r.set s.Var (dL r.Vars s.Expr)
def sG:List Int→List Int→List Int→List Int
 | vs,n::ps,x::xs=>sG (vs.set n.toNat x) ps xs
 | vs,_,_=>vs
def fC(X:Ctx)(s:Stmt):Func:=(X.p.Funcs[s.Other.toNat]?).getD ⟨[],[],⟨0,0,[]⟩⟩
def ph(X:Ctx)(s:Stmt)(r:RunT):RunT:=r.jj (sG r.Vars (fC X s).Params (s.Args.map (dL r.Vars)))
def yN(X:Ctx)(s:Stmt)(r:RunT):RunT:=r.set s.Var (dL r.Vars (fC X s).Result)
def lC(X:Ctx)(s:Stmt)(a:Int)(l:List Stmt)(K:List Tk)(r:RunT):mD:=
 if s.Kind=2 then (.run (fC X s).Body (nth X.first s.Other)::.leave s::.run l (a+mC s)::K,ph X s r)
 else if s.Kind=7 then (.run (if dL r.Vars s.Expr≠0 then s.Then else s.Else) (if dL r.Vars s.Expr≠0 then a+1 else a+1+cw s.Then)::.run l (a+mC s)::K,r)
 else if s.Kind=8 then (if dL r.Vars s.Expr≠0 then (.run s.Then (a+1)::.run (s::l) a::K,r) else (.run l (a+mC s)::K,r))
 else (.run l (a+mC s)::K,B7 X s a r)
def pH(X:Ctx):mD→mD
 | ([],r)=>([],r)
 | (.leave s::K,r)=>(K,yN X s r)
 | (.run [] _::K,r)=>(K,r)
 | (.run (s::l) a::K,r)=>if r.Steps=X.fuel then ([],r.out) else lC X s a l K r.tick
def iter(X:Ctx):Nat→mD→mD
 | 0,c=>c
 | n+1,c=>iter X n (pH X c)
theorem FJ(X:Ctx):∀ (n m:Nat)(c:mD),iter X (n+m) c=iter X m (iter X n c)
 | 0,m,c=>by rw [Nat.zero_add];rfl
 | n+1,m,c=>by rw [show n+1+m=(n+m)+1 by omega];exact FJ X n m (pH X c)
def ez(X:Ctx)(c d:mD):Prop:=∃ n,iter X n c=d
theorem ez.refl(X:Ctx)(c:mD):ez X c c:=⟨0,rfl⟩
theorem ez.trans{X:Ctx}{c d e:mD} : ez X c d→ez X d e→ez X c e
 | ⟨n,h⟩,⟨m,h'⟩=>⟨n+m,by rw [FJ,h,h']⟩
theorem ez.one{X:Ctx}{c d:mD}(h:pH X c=d):ez X c d:=⟨1,h⟩
theorem tk(X:Ctx)(s:Stmt)(a:Int)(l:List Stmt)(K:List Tk)(r:RunT) :
  (lC X s a l K r).2.End=r.End∧(lC X s a l K r).2.Steps=r.Steps∧(∃ es,(lC X s a l K r).2.Events=r.Events++es)∧(lC X s a l K r).1≠[]:=by
 unfold lC
 split
 ·exact ⟨rfl,rfl,⟨[],by simp [ph,RunT.jj]⟩,by simp⟩
 split
 ·exact ⟨rfl,rfl,⟨[],by simp⟩,by simp⟩
 split
 ·split
  ·exact ⟨rfl,rfl,⟨[],by simp⟩,by simp⟩
  ·exact ⟨rfl,rfl,⟨[],by simp⟩,by simp⟩
 ·refine ⟨?_,?_,?_,by simp⟩
  ·unfold B7;repeat' split
   all_goals rfl
  ·unfold B7;repeat' split
   all_goals rfl
  ·unfold B7
   repeat' split
   ·exact ⟨[],by simp⟩
   ·exact ⟨_,rfl⟩
   ·exact ⟨_,rfl⟩
   ·exact ⟨_,rfl⟩
   ·exact ⟨[],by simp [RunT.set,RunT.jj]⟩
theorem IL{X:Ctx}{c:mD}(h:c.2.Steps≤X.fuel):(pH X c).2.Steps≤X.fuel:=by
 obtain ⟨ts,r⟩:=c
 match ts with
 | []=>exact h
 | .leave s::K=>exact h
 | .run [] _::K=>exact h
 | .run (s::l) a::K=>
  simp only [pH]
  split
  ·exact h
  ·rename_i hne
   rw [(tk X s a l K r.tick).2.1]
   have:r.Steps≤X.fuel:=h
   show r.Steps+1≤X.fuel
   omega
def Comes(X:Ctx)(c:mD)(r:RunT):Prop:=(∃ q:RunT,ez X c ([],q)∧q.End=0∧r=⟨q.Events,q.Vars,q.Taken,q.Steps,1,q.Stop⟩)∨(ez X c ([],r)∧r.End=2)
end Go.Proofs.YtdpjofmmokaobaaGreat.A
