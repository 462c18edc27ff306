/- Runs, step by step, as plain mathematics: with more fuel; with other numbers behind what is taken. -/
import Derived.Test.YtlmphbbhaeampaaGreatScopeS
set_option linter.all false
namespace Go.Proofs.YtlmphbbhaeampaaGreat.A
open Go
inductive Tk where
 | run (l:List Stmt) (a:Int)
 | leave (s:Stmt)
structure Ctx where
 p:Program
 ins:List (List Int)
 fuel:Int
 first:List Int
abbrev ux:=List Tk×RunT
def RunT.tick(r:RunT):RunT:=⟨r.Events,r.Vars,r.Taken,r.Steps+1,r.End,r.Stop⟩
def RunT.out(r:RunT):RunT:=⟨r.Events,r.Vars,r.Taken,r.Steps,2,r.Stop⟩
def RunT.du(r:RunT)(vs:List Int):RunT:=⟨r.Events,vs,r.Taken,r.Steps,r.End,r.Stop⟩
def RunT.ev(r:RunT)(e:Event):RunT:=⟨r.Events++[e],r.Vars,r.Taken,r.Steps,r.End,r.Stop⟩
def RunT.set(r:RunT)(n x:Int):RunT:=r.du (r.Vars.set n.toNat x)
def nth(l:List Int)(k:Int):Int:=l.getD k.toNat 0
def vp(l:List (List Int))(k:Int):List Int:=l.getD k.toNat []
def mb(X:Ctx)(s:Stmt)(a:Int)(r:RunT):RunT:=
 if s.Kind=3 then ⟨r.Events,r.Vars.set s.Var.toNat (nth (vp X.ins s.Other) (nth r.Taken s.Other)),r.Taken.set s.Other.toNat (nth r.Taken s.Other+1),r.Steps,r.End,r.Stop⟩
 else if s.Kind=4 then r.ev ⟨1,a,s.Other,cM r.Vars s.Expr⟩
 else if s.Kind=5 then (r.set s.Var (cM r.Vars s.Expr)).ev ⟨2,a,s.Var,cM r.Vars s.Expr⟩
 else if s.Kind=6 then (r.set s.Var (cM r.Vars s.Expr)).ev ⟨3,a,s.Var,cM r.Vars s.Expr⟩
 else r.set s.Var (cM r.Vars s.Expr)
def oJ:List Int→List Int→List Int→List Int
 | vs,n::ps,x::xs=>oJ (vs.set n.toNat x) ps xs
 | vs,_,_=>vs
def dw(X:Ctx)(s:Stmt):Func:=(X.p.Funcs[s.Other.toNat]?).getD ⟨[],[],⟨0,0,[]⟩⟩
def kH(X:Ctx)(s:Stmt)(r:RunT):RunT:=r.du (oJ r.Vars (dw X s).Params (s.Args.map (cM r.Vars)))
def qX(X:Ctx)(s:Stmt)(r:RunT):RunT:=r.set s.Var (cM r.Vars (dw X s).Result)
def Ke(X:Ctx)(s:Stmt)(a:Int)(l:List Stmt)(K:List Tk)(r:RunT):ux:=
 if s.Kind=2 then (.run (dw X s).Body (nth X.first s.Other)::.leave s::.run l (a+gh s)::K,kH X s r)
 else if s.Kind=7 then (.run (if cM r.Vars s.Expr≠0 then s.Then else s.Else) (if cM r.Vars s.Expr≠0 then a+1 else a+1+cP s.Then)::.run l (a+gh s)::K,r)
 else if s.Kind=8 then (if cM r.Vars s.Expr≠0 then (.run s.Then (a+1)::.run (s::l) a::K,r) else (.run l (a+gh s)::K,r))
 else (.run l (a+gh s)::K,mb X s a r)
def Af(X:Ctx):ux→ux
 | ([],r)=>([],r)
 | (.leave s::K,r)=>(K,qX X s r)
 | (.run [] _::K,r)=>(K,r)
 | (.run (s::l) a::K,r)=>if r.Steps=X.fuel then ([],r.out) else Ke X s a l K r.tick
def iter(X:Ctx):Nat→ux→ux
 | 0,c=>c
 | n+1,c=>iter X n (Af X c)
theorem CC(X:Ctx):∀ (n m:Nat)(c:ux),iter X (n+m) c=iter X m (iter X n c)
 | 0,m,c=>by rw [gO];rfl
 | n+1,m,c=>by rw [show n+1+m=(n+m)+1 by omega];exact CC X n m (Af X c)
theorem Gn(X:Ctx)(r:RunT):∀ n,iter X n ([],r)=([],r)
 | 0=>rfl
 | n+1=>Gn X r n
def vq(X:Ctx)(c d:ux):Prop:=∃ n,iter X n c=d
theorem vq.refl(X:Ctx)(c:ux):vq X c c:=⟨0,rfl⟩
variable {X:Ctx}{c d:ux}
theorem vq.trans{e:ux}: vq X c d→vq X d e→vq X c e
 | ⟨n,h⟩,⟨m,h'⟩=>⟨n+m,by rw [CC,h,h']⟩
theorem vq.one(h:Af X c=d):vq X c d:=⟨1,h⟩
theorem vq.yO{r s:RunT}: vq X c ([],r)→vq X c ([],s)→r=s
 | ⟨n,h⟩,⟨m,h'⟩=>by
  rcases Nat.le_total n m with hm | hm
  ·obtain ⟨k,rfl⟩:=Nat.exists_eq_add_of_le hm
   rw [CC,h,Gn] at h'
   exact (dM h').2
  ·obtain ⟨k,rfl⟩:=Nat.exists_eq_add_of_le hm
   rw [CC,h',Gn] at h
   exact (dM h).2.symm
theorem Pb(X:Ctx)(s:Stmt)(a:Int)(l:List Stmt)(K:List Tk)(r:RunT) :
  (Ke X s a l K r).2.End=r.End∧(Ke X s a l K r).2.Steps=r.Steps∧(∃ es,(Ke X s a l K r).2.Events=r.Events++es)∧(Ke X s a l K r).1≠[]:=by
 unfold Ke
 split
 ·exact ⟨rfl,rfl,⟨[],by simp [kH,RunT.du]⟩,by simp⟩
 split
 ·exact ⟨rfl,rfl,⟨[],by simp⟩,by simp⟩
 split
 ·split
  ·exact ⟨rfl,rfl,⟨[],by simp⟩,by simp⟩
  ·exact ⟨rfl,rfl,⟨[],by simp⟩,by simp⟩
 ·refine ⟨?_,?_,?_,by simp⟩
  ·unfold mb;repeat' split
   all_goals rfl
  ·unfold mb;repeat' split
   all_goals rfl
  ·unfold mb
   repeat' split
   ·exact ⟨[],by simp⟩
   ·exact ⟨_,rfl⟩
   ·exact ⟨_,rfl⟩
   ·exact ⟨_,rfl⟩
   ·exact ⟨[],by simp [RunT.set,RunT.du]⟩
theorem Qc(h:c.2.Steps≤X.fuel):(Af X c).2.Steps≤X.fuel:=by
 obtain ⟨ts,r⟩:=c
 match ts with
 | []=>exact h
 | .leave s::K=>exact h
 | .run [] _::K=>exact h
 | .run (s::l) a::K=>
  simp only [Af]
  split
  ·exact h
  ·rename_i b
   rw [(Pb X s a l K r.tick).2.1]
   have:r.Steps≤X.fuel:=h
   show r.Steps+1≤X.fuel
   omega
def Comes(X:Ctx)(c:ux)(r:RunT):Prop:=(∃ q:RunT,vq X c ([],q)∧q.End=0∧r=⟨q.Events,q.Vars,q.Taken,q.Steps,1,q.Stop⟩)∨(vq X c ([],r)∧r.End=2)
end Go.Proofs.YtlmphbbhaeampaaGreat.A
