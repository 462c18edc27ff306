/- The library's functions that are met by their contracts: strings.Join, strings.IndexByte. -/
import Derived.Test.YtogbakbmphadfaaGreatDoorAbs3
import Derived.Lib.Join
import Derived.Lib.Bytealg
import Derived.Lib.Atoi
import Derived.Lib.Repeat
import Derived.Lib.ItoaNum
set_option linter.unusedSectionVars false
set_option linter.unusedVariables false
set_option linter.unusedSimpArgs false
set_option linter.constructorNameAsVariable false
namespace Go.Proofs.YtogbakbmphadfaaGreatDoor.A
open Go
def u1:List AV→Option (List (List UInt8))
 | []=>some []
 | .s l::r=>(u1 r).map (l::·)
 | _=>none
theorem HW(l:List (List UInt8)):u1 (l.map AV.s)=some l:=by
 induction l with
 | nil=>rfl
 | cons x l ih=>simp [u1,ih]
theorem Ah:∀ {es:List AV}{ss:List (List UInt8)},u1 es=some ss→es=ss.map AV.s
 | [],ss,h=>by obtain rfl:=Option.some.inj h;rfl
 | e::es,ss,h=>by
  cases e<;>simp only [u1,Option.map_eq_some_iff] at h<;>try contradiction
  obtain ⟨r,h1,rfl⟩:=h
  rw [Ah h1];rfl
def oz(l:List (List UInt8))(sep:List UInt8):Option (List UInt8):=if l.length≤140737488355328∧(Lib.join l sep).length≤140737488355328 then some (Lib.join l sep) else none
def pD:List AV→Option AV
 | [.l _ es,.s sep]=>(u1 es).bind fun ss=>(oz ss sep).map AV.s
 | _=>none
theorem sJ{t:TypeId}{l:List (List UInt8)}{sep r:List UInt8}(h:oz l sep=some r):pD [.l t (l.map AV.s),.s sep]=some (.s r):=by
 simp only [pD,HW,Option.bind_some,h,Option.map_some]
def pE(s:List UInt8)(c:Int):Option Int:=some (Lib.indexByte s c.toNat.toUInt8)
def eX:List AV→Option AV
 | [.s s,.i .u8 c]=>(pE s c).map (AV.i .i64)
 | _=>none
theorem DN{s:List UInt8}{c r:Int}(h:pE s c=some r):eX [.s s,.i .u8 c]=some (.i .i64 r):=by
 simp only [eX,h,Option.map_some]
def qt(s:List UInt8)(c:Int):Option (List UInt8):=if 0≤c∧s.length*c.toNat≤140737488355328∧c≤9223372036854775807 then some (Lib.repeatL s c.toNat) else none
def kl:List AV→Option AV
 | [.s s,.i .i64 c]=>(qt s c).map AV.s
 | _=>none
theorem HX{s r:List UInt8}{c:Int}(h:qt s c=some r):kl [.s s,.i .i64 c]=some (.s r):=by simp only [kl,h,Option.map_some]
theorem GJ{g:FuncId}{n:Int}(h:kl [.u,.i .i64 g]=some (.i .i64 n)):False:=by cases h
theorem I2{y:AV}(h:kl [y]=some .u):False:=by
 unfold kl at h
 split at h
 ·rename_i heq;simp at heq
 ·cases h
def yi(n:Int):Option (List UInt8):=if -9223372036854775808≤n∧n≤9223372036854775807 then some (Lib.itoa n) else none
def pF:List AV→Option AV
 | [.i .i64 n]=>(yi n).map AV.s
 | _=>none
theorem Ka{r:List UInt8}{n:Int}(h:yi n=some r):pF [.i .i64 n]=some (.s r):=by simp only [pF,h,Option.map_some]
theorem I3{g:FuncId}{n:Int}(h:pF [.u,.i .i64 g]=some (.i .i64 n)):False:=by cases h
theorem MP{y:AV}(h:pF [y]=some .u):False:=by
 unfold pF at h
 split at h
 ·obtain ⟨_,_,h2⟩:=Option.map_eq_some_iff.1 h;cases h2
 ·cases h
def xb(t:TypeId):List AV→Option AV
 | [.u,.u,.i .i64 n]=>if n=t then some (.s []) else none
 | _=>none
theorem I4{g:FuncId}{n:Int}(h:pD [.u,.i .i64 g]=some (.i .i64 n)):False:=by cases h
theorem By{g:FuncId}{n:Int}(h:eX [.u,.i .i64 g]=some (.i .i64 n)):False:=by cases h
theorem MQ{y:AV}(h:pD [y]=some .u):False:=by
 unfold pD at h
 split at h
 ·rename_i heq;simp at heq
 ·cases h
theorem EN{y:AV}(h:eX [y]=some .u):False:=by
 unfold eX at h
 split at h
 ·rename_i heq;simp at heq
 ·cases h
theorem I5{t:TypeId}(h:pD [.u,.u,.i .i64 t]=some (.s [])):False:=by cases h
theorem Bz{t:TypeId}(h:eX [.u,.u,.i .i64 t]=some (.s [])):False:=by cases h
theorem GK{t:TypeId}(h:kl [.u,.u,.i .i64 t]=some (.s [])):False:=by cases h
theorem I6{t:TypeId}(h:pF [.u,.u,.i .i64 t]=some (.s [])):False:=by cases h
end Go.Proofs.YtogbakbmphadfaaGreatDoor.A
