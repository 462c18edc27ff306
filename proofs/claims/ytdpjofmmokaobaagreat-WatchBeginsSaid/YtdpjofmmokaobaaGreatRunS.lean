/- Runs, step by step, as plain mathematics: with more fuel; with other numbers behind what is taken. -/
import Derived.Test.YtdpjofmmokaobaaGreatScopeS
set_option linter.unusedSectionVars false
set_option linter.unusedVariables false
set_option linter.unusedSimpArgs false
namespace Go.Proofs.YtdpjofmmokaobaaGreat.A
open Go
inductive Tk where
 | run (l:List Stmt) (a:Int)
 | leave (s:Stmt)
structure Ctx where
 p:Program
 ins:List (List Int)
 fuel:Int
 first:List Int
abbrev js:=List Tk×RunT
def RunT.tick(r:RunT):RunT:=⟨r.Events,r.Vars,r.Taken,r.Steps+1,r.End,r.Stop⟩
def RunT.out(r:RunT):RunT:=⟨r.Events,r.Vars,r.Taken,r.Steps,2,r.Stop⟩
def RunT.im(r:RunT)(vs:List Int):RunT:=⟨r.Events,vs,r.Taken,r.Steps,r.End,r.Stop⟩
def RunT.ev(r:RunT)(e:Event):RunT:=⟨r.Events++[e],r.Vars,r.Taken,r.Steps,r.End,r.Stop⟩
def RunT.set(r:RunT)(n x:Int):RunT:=r.im (r.Vars.set n.toNat x)
def nth(l:List Int)(k:Int):Int:=l.getD k.toNat 0
def Bu(l:List (List Int))(k:Int):List Int:=l.getD k.toNat []
def AQ(X:Ctx)(s:Stmt)(a:Int)(r:RunT):RunT:=
 if s.Kind=3 then ⟨r.Events,r.Vars.set s.Var.toNat (nth (Bu X.ins s.Other) (nth r.Taken s.Other)),r.Taken.set s.Other.toNat (nth r.Taken s.Other+1),r.Steps,r.End,r.Stop⟩
 else if s.Kind=4 then r.ev ⟨1,a,s.Other,dt r.Vars s.Expr⟩
 else if s.Kind=5 then (r.set s.Var (dt r.Vars s.Expr)).ev ⟨2,a,s.Var,dt r.Vars s.Expr⟩
 else if s.Kind=6 then (r.set s.Var (dt r.Vars s.Expr)).ev ⟨3,a,s.Var,dt r.Vars s.Expr⟩
 else r.set s.Var (dt r.Vars s.Expr)
def sV:List Int→List Int→List Int→List Int
 | vs,n::ps,x::xs=>sV (vs.set n.toNat x) ps xs
 | vs,_,_=>vs
def fl(X:Ctx)(s:Stmt):Func:=(X.p.Funcs[s.Other.toNat]?).getD ⟨[],[],⟨0,0,[]⟩⟩
def mD(X:Ctx)(s:Stmt)(r:RunT):RunT:=r.im (sV r.Vars (fl X s).Params (s.Args.map (dt r.Vars)))
def uA(X:Ctx)(s:Stmt)(r:RunT):RunT:=r.set s.Var (dt r.Vars (fl X s).Result)
def eV(X:Ctx)(s:Stmt)(a:Int)(l:List Stmt)(K:List Tk)(r:RunT):js:=
 if s.Kind=2 then (.run (fl X s).Body (nth X.first s.Other)::.leave s::.run l (a+gw s)::K,mD X s r)
 else if s.Kind=7 then (.run (if dt r.Vars s.Expr≠0 then s.Then else s.Else) (if dt r.Vars s.Expr≠0 then a+1 else a+1+cp s.Then)::.run l (a+gw s)::K,r)
 else if s.Kind=8 then (if dt r.Vars s.Expr≠0 then (.run s.Then (a+1)::.run (s::l) a::K,r) else (.run l (a+gw s)::K,r))
 else (.run l (a+gw s)::K,AQ X s a r)
def fg(X:Ctx):js→js
 | ([],r)=>([],r)
 | (.leave s::K,r)=>(K,uA X s r)
 | (.run [] _::K,r)=>(K,r)
 | (.run (s::l) a::K,r)=>if r.Steps=X.fuel then ([],r.out) else eV X s a l K r.tick
def iter(X:Ctx):Nat→js→js
 | 0,c=>c
 | n+1,c=>iter X n (fg X c)
theorem ry(X:Ctx):∀ (n m:Nat)(c:js),iter X (n+m) c=iter X m (iter X n c)
 | 0,m,c=>by rw [Nat.zero_add];rfl
 | n+1,m,c=>by rw [show n+1+m=(n+m)+1 by omega];exact ry X n m (fg X c)
theorem xS(X:Ctx)(r:RunT):∀ n,iter X n ([],r)=([],r)
 | 0=>rfl
 | n+1=>xS X r n
def bW(X:Ctx)(c d:js):Prop:=∃ n,iter X n c=d
theorem bW.refl(X:Ctx)(c:js):bW X c c:=⟨0,rfl⟩
theorem bW.trans{X:Ctx}{c d e:js} : bW X c d→bW X d e→bW X c e
 | ⟨n,h⟩,⟨m,h'⟩=>⟨n+m,by rw [ry,h,h']⟩
theorem bW.one{X:Ctx}{c d:js}(h:fg X c=d):bW X c d:=⟨1,h⟩
theorem bW.sF{X:Ctx}{c:js}{r s:RunT} : bW X c ([],r)→bW X c ([],s)→r=s
 | ⟨n,h⟩,⟨m,h'⟩=>by
  rcases Nat.le_total n m with hm | hm
  ·obtain ⟨k,rfl⟩:=Nat.exists_eq_add_of_le hm
   rw [ry,h,xS] at h'
   exact (Prod.mk.inj h').2
  ·obtain ⟨k,rfl⟩:=Nat.exists_eq_add_of_le hm
   rw [ry,h',xS] at h
   exact (Prod.mk.inj h).2.symm
theorem oz(X:Ctx)(s:Stmt)(a:Int)(l:List Stmt)(K:List Tk)(r:RunT) :
  (eV X s a l K r).2.End=r.End∧(eV X s a l K r).2.Steps=r.Steps∧(∃ es,(eV X s a l K r).2.Events=r.Events++es)∧(eV X s a l K r).1≠[]:=by
 unfold eV
 split
 ·exact ⟨rfl,rfl,⟨[],by simp [mD,RunT.im]⟩,by simp⟩
 split
 ·exact ⟨rfl,rfl,⟨[],by simp⟩,by simp⟩
 split
 ·split
  ·exact ⟨rfl,rfl,⟨[],by simp⟩,by simp⟩
  ·exact ⟨rfl,rfl,⟨[],by simp⟩,by simp⟩
 ·refine ⟨?_,?_,?_,by simp⟩
  ·unfold AQ;repeat' split
   all_goals rfl
  ·unfold AQ;repeat' split
   all_goals rfl
  ·unfold AQ
   repeat' split
   ·exact ⟨[],by simp⟩
   ·exact ⟨_,rfl⟩
   ·exact ⟨_,rfl⟩
   ·exact ⟨_,rfl⟩
   ·exact ⟨[],by simp [RunT.set,RunT.im]⟩
theorem HH(X:Ctx)(c:js):∃ es,(fg X c).2.Events=c.2.Events++es:=by
 obtain ⟨ts,r⟩:=c
 match ts with
 | []=>exact ⟨[],by simp [fg]⟩
 | .leave s::K=>exact ⟨[],by simp [fg,uA,RunT.set,RunT.im]⟩
 | .run [] _::K=>exact ⟨[],by simp [fg]⟩
 | .run (s::l) a::K=>
  simp only [fg]
  split
  ·exact ⟨[],by simp [RunT.out]⟩
  ·exact (oz X s a l K r.tick).2.2.1
theorem AR(X:Ctx):∀ (n:Nat)(c:js),∃ es,(iter X n c).2.Events=c.2.Events++es
 | 0,c=>⟨[],by simp [iter]⟩
 | n+1,c=>by
  obtain ⟨es,h⟩:=HH X c
  obtain ⟨fs,h'⟩:=AR X n (fg X c)
  exact ⟨es++fs,by rw [iter,h',h,List.append_assoc]⟩
theorem Js{X:Ctx}{c:js}(h:c.2.Steps≤X.fuel):(fg X c).2.Steps≤X.fuel:=by
 obtain ⟨ts,r⟩:=c
 match ts with
 | []=>exact h
 | .leave s::K=>exact h
 | .run [] _::K=>exact h
 | .run (s::l) a::K=>
  simp only [fg]
  split
  ·exact h
  ·rename_i hne
   rw [(oz X s a l K r.tick).2.1]
   have:r.Steps≤X.fuel:=h
   show r.Steps+1≤X.fuel
   omega
def Comes(X:Ctx)(c:js)(r:RunT):Prop:=(∃ q:RunT,bW X c ([],q)∧q.End=0∧r=⟨q.Events,q.Vars,q.Taken,q.Steps,1,q.Stop⟩)∨(bW X c ([],r)∧r.End=2)
end Go.Proofs.YtdpjofmmokaobaaGreat.A
