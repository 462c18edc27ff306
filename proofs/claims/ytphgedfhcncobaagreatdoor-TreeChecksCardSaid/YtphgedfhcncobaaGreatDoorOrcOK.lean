/- The library's contracts, as calls that change nothing. -/
import Derived.Test.YtphgedfhcncobaaGreatDoorAbsG
import Derived.Test.YtphgedfhcncobaaGreatDoorAbsO
import Derived.Below
import Derived.Lib.AtoiErrMem
set_option linter.unusedSectionVars false
set_option linter.unusedVariables false
set_option linter.unusedSimpArgs false
set_option linter.constructorNameAsVariable false
namespace Go.Proofs.YtphgedfhcncobaaGreatDoor.A
open Go Go.RowKit
variable [bg]
theorem Ey{α:Type}{a:Array α}(h:a.size=2)(d:α):a=#[a.getD 0 d,a.getD 1 d]:=by
 apply Array.ext (by simpa using h)
 intro i h1 h2
 have:i=0∨i=1:=by omega
 rcases this with rfl | rfl<;>simp [Array.getD,h1]
theorem B9{P:Program}{f:FuncId}(hb:dE P f)
  (hidx:∀ (s:ByteArray)(c:Int)(w:World),Calls P f #[.string s,.int .u8 c] w fun e w'=>e= .returned (.int .i64 (Lib.indexByte s.data.toList c.toNat.toUInt8))∧w'=w)
  {ys:List AV} {x:AV} (h:eu ys=some x):rH P f ys x:=by
 unfold eu at h
 split at h
 ·rename_i s c
  obtain rfl:=Option.some.inj h
  refine ⟨hb,fun w I κ cargs hn hI hs ha=>?_⟩
  have h0:=ha 0 _ rfl
  have h1:=ha 1 _ rfl
  have hc:=Ey hs undef
  generalize cargs.getD 0 undef=v0 at *
  generalize cargs.getD 1 undef=v1 at *
  subst hc
  cases h0
  cases h1
  refine (hidx _ c w).mono ?_
  rintro e w' ⟨rfl,rfl⟩
  exact ⟨_,I,rfl,.i _ _,Nat.le_refl _,fun _ _=>rfl,fun _ h=>h,fun _ h=>.inl h,hI,rfl,rfl⟩
 ·cases h
theorem Ez{α:Type}{a:Array α}(h:a.size=1)(d:α):a=#[a.getD 0 d]:=by
 apply Array.ext (by simpa using h)
 intro i h1 h2
 obtain rfl:i=0:=by omega
 simp [Array.getD,h1]
theorem J2{P:Program}{f:FuncId}{t5:TypeId}(hb:dE P f)
  (hat:∀ (s:ByteArray)(n:Int),s.size≤18→Lib.atoi s.data.toList=some n→∀ w:World,Calls P f #[.string s] w fun e w'=>e= .returned (.tuple #[.int .i64 n,.nilIface])∧∃ t,w'=Lib.bytesWorld w t5 t)
  {ys:List AV} {x:AV} (h:qj ys=some x):rH P f ys x:=by
 unfold qj at h
 split at h
 ·rename_i s
  split at h
  ·rename_i hl
   obtain ⟨n,hn,rfl⟩:=Option.map_eq_some_iff.1 h
   refine ⟨hb,fun w I κ cargs hn0 hI hs ha=>?_⟩
   have h0:=ha 0 _ rfl
   have hc:=Ez hs undef
   generalize cargs.getD 0 undef=v0 at *
   subst hc
   cases h0
   refine (hat ⟨s.toArray⟩ n (by show s.toArray.size≤18;simpa using hl) hn w).mono ?_
   rintro e w' ⟨rfl,t,rfl⟩
   have hbel:=Lib.bytesWorld_below w t5 t
   refine ⟨_,I,rfl,?_,hbel.size,fun b hb=>hbel.block b hb,fun _ h=>h,fun _ h=>.inl h,fun b hb=>Nat.lt_of_lt_of_le (hI b hb) hbel.size,hbel.os,hbel.output⟩
   refine .tp _ _ rfl fun m c hm=>?_
   match m with
   | 0=>obtain rfl:=Option.some.inj hm;exact .i _ _
   | 1=>obtain rfl:=Option.some.inj hm;exact .ni
   | m+2=>cases hm
  ·cases h
 ·cases h
theorem Fw{ys:List AV}{t:TypeId}(h:qj ys=some (.o t [])):False:=by
 unfold qj at h
 split at h
 ·split at h
  ·obtain ⟨_,_,h2⟩:=Option.map_eq_some_iff.1 h;cases h2
  ·cases h
 ·cases h
theorem zU{ys:List AV}{t:TypeId}(h:eu ys=some (.o t [])):False:=by
 unfold eu at h
 split at h
 ·obtain ⟨r,_,h3⟩:=Option.map_eq_some_iff.1 h
  cases h3
 ·cases h
end Go.Proofs.YtphgedfhcncobaaGreatDoor.A
