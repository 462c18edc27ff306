/- Runs, step by step, as plain mathematics: with more fuel; with other numbers behind what is taken. -/
import Derived.Test.YtlmphbbhaeampaaGreatScopeS
set_option linter.all false
namespace Go.Proofs.YtlmphbbhaeampaaGreat.A
open Go
inductive Tk where
 | run (l:List Stmt) (a:Int)
 | leave (s:Stmt)
structure Ctx where
 p:Program
 ins:List (List Int)
 fuel:Int
 first:List Int
abbrev wW:=List Tk×RunT
def RunT.tick(r:RunT):RunT:=⟨r.Events,r.Vars,r.Taken,r.Steps+1,r.End,r.Stop⟩
def RunT.out(r:RunT):RunT:=⟨r.Events,r.Vars,r.Taken,r.Steps,2,r.Stop⟩
def RunT.ke(r:RunT)(vs:List Int):RunT:=⟨r.Events,vs,r.Taken,r.Steps,r.End,r.Stop⟩
def RunT.ev(r:RunT)(e:Event):RunT:=⟨r.Events++[e],r.Vars,r.Taken,r.Steps,r.End,r.Stop⟩
def RunT.set(r:RunT)(n x:Int):RunT:=r.ke (r.Vars.set n.toNat x)
def nth(l:List Int)(k:Int):Int:=l.getD k.toNat 0
def GO(l:List (List Int))(k:Int):List Int:=l.getD k.toNat []
def vE(X:Ctx)(s:Stmt)(a:Int)(r:RunT):RunT:=
 if s.Kind=3 then ⟨r.Events,r.Vars.set s.Var.toNat (nth (GO X.ins s.Other) (nth r.Taken s.Other)),r.Taken.set s.Other.toNat (nth r.Taken s.Other+1),r.Steps,r.End,r.Stop⟩
 else if s.Kind=4 then r.ev ⟨1,a,s.Other,c9 r.Vars s.Expr⟩
 else if s.Kind=5 then (r.set s.Var (c9 r.Vars s.Expr)).ev ⟨2,a,s.Var,c9 r.Vars s.Expr⟩
 else if s.Kind=6 then (r.set s.Var (c9 r.Vars s.Expr)).ev ⟨3,a,s.Var,c9 r.Vars s.Expr⟩
 else r.set s.Var (c9 r.Vars s.Expr)
def ud:List Int→List Int→List Int→List Int
 | vs,n::ps,x::xs=>ud (vs.set n.toNat x) ps xs
 | vs,_,_=>vs
def cY(X:Ctx)(s:Stmt):Func:=(X.p.Funcs[s.Other.toNat]?).getD ⟨[],[],⟨0,0,[]⟩⟩
def nv(X:Ctx)(s:Stmt)(r:RunT):RunT:=r.ke (ud r.Vars (cY X s).Params (s.Args.map (c9 r.Vars)))
def wy(X:Ctx)(s:Stmt)(r:RunT):RunT:=r.set s.Var (c9 r.Vars (cY X s).Result)
def IK(X:Ctx)(s:Stmt)(a:Int)(l:List Stmt)(K:List Tk)(r:RunT):wW:=
 if s.Kind=2 then (.run (cY X s).Body (nth X.first s.Other)::.leave s::.run l (a+fD s)::K,nv X s r)
 else if s.Kind=7 then (.run (if c9 r.Vars s.Expr≠0 then s.Then else s.Else) (if c9 r.Vars s.Expr≠0 then a+1 else a+1+bR s.Then)::.run l (a+fD s)::K,r)
 else if s.Kind=8 then (if c9 r.Vars s.Expr≠0 then (.run s.Then (a+1)::.run (s::l) a::K,r) else (.run l (a+fD s)::K,r))
 else (.run l (a+fD s)::K,vE X s a r)
def CF(X:Ctx):wW→wW
 | ([],r)=>([],r)
 | (.leave s::K,r)=>(K,wy X s r)
 | (.run [] _::K,r)=>(K,r)
 | (.run (s::l) a::K,r)=>if r.Steps=X.fuel then ([],r.out) else IK X s a l K r.tick
def iter(X:Ctx):Nat→wW→wW
 | 0,c=>c
 | n+1,c=>iter X n (CF X c)
theorem EV(X:Ctx):∀ (n m:Nat)(c:wW),iter X (n+m) c=iter X m (iter X n c)
 | 0,m,c=>by rw [jL];rfl
 | n+1,m,c=>by rw [show n+1+m=(n+m)+1 by omega];exact EV X n m (CF X c)
theorem Jw(X:Ctx)(r:RunT):∀ n,iter X n ([],r)=([],r)
 | 0=>rfl
 | n+1=>Jw X r n
def yf(X:Ctx)(c d:wW):Prop:=∃ n,iter X n c=d
theorem yf.refl(X:Ctx)(c:wW):yf X c c:=⟨0,rfl⟩
variable {X:Ctx}{c d:wW}
theorem yf.trans{e:wW}: yf X c d→yf X d e→yf X c e
 | ⟨n,h⟩,⟨m,h'⟩=>⟨n+m,by rw [EV,h,h']⟩
theorem yf.one(h:CF X c=d):yf X c d:=⟨1,h⟩
theorem yf.Bi{r s:RunT}: yf X c ([],r)→yf X c ([],s)→r=s
 | ⟨n,h⟩,⟨m,h'⟩=>by
  rcases Nat.le_total n m with hm | hm
  ·obtain ⟨k,rfl⟩:=Nat.exists_eq_add_of_le hm
   rw [EV,h,Jw] at h'
   exact (iB h').2
  ·obtain ⟨k,rfl⟩:=Nat.exists_eq_add_of_le hm
   rw [EV,h',Jw] at h
   exact (iB h).2.symm
theorem HW(X:Ctx)(s:Stmt)(a:Int)(l:List Stmt)(K:List Tk)(r:RunT) :
  (IK X s a l K r).2.End=r.End∧(IK X s a l K r).2.Steps=r.Steps∧(∃ es,(IK X s a l K r).2.Events=r.Events++es)∧(IK X s a l K r).1≠[]:=by
 unfold IK
 split
 ·exact ⟨rfl,rfl,⟨[],by simp [nv,RunT.ke]⟩,by simp⟩
 split
 ·exact ⟨rfl,rfl,⟨[],by simp⟩,by simp⟩
 split
 ·split
  ·exact ⟨rfl,rfl,⟨[],by simp⟩,by simp⟩
  ·exact ⟨rfl,rfl,⟨[],by simp⟩,by simp⟩
 ·refine ⟨?_,?_,?_,by simp⟩
  ·unfold vE;repeat' split
   all_goals rfl
  ·unfold vE;repeat' split
   all_goals rfl
  ·unfold vE
   repeat' split
   ·exact ⟨[],by simp⟩
   ·exact ⟨_,rfl⟩
   ·exact ⟨_,rfl⟩
   ·exact ⟨_,rfl⟩
   ·exact ⟨[],by simp [RunT.set,RunT.ke]⟩
theorem T5(h:c.2.Steps≤X.fuel):(CF X c).2.Steps≤X.fuel:=by
 obtain ⟨ts,r⟩:=c
 match ts with
 | []=>exact h
 | .leave s::K=>exact h
 | .run [] _::K=>exact h
 | .run (s::l) a::K=>
  simp only [CF]
  split
  ·exact h
  ·rename_i b
   rw [(HW X s a l K r.tick).2.1]
   have:r.Steps≤X.fuel:=h
   show r.Steps+1≤X.fuel
   omega
def Comes(X:Ctx)(c:wW)(r:RunT):Prop:=(∃ q:RunT,yf X c ([],q)∧q.End=0∧r=⟨q.Events,q.Vars,q.Taken,q.Steps,1,q.Stop⟩)∨(yf X c ([],r)∧r.End=2)
end Go.Proofs.YtlmphbbhaeampaaGreat.A
