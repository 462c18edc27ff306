/- slices.Clone of ints: what it answers. -/
import Derived.Shelf.Abstract
import Derived.Test.YtkkkkondjclcnaaGreatAbsG
import Derived.Test.YtkkkkondjclcnaaGreatAbsO
import Derived.Test.YtkkkkondjclcnaaGreatProg
import Derived.Test.YtkkkkondjclcnaaGreatShelf
set_option linter.all false
namespace Go.Proofs.YtkkkkondjclcnaaGreat.A
open Go Go.Proofs Go.RowKit Go.Shelf
variable [bJ]
theorem Xg{ys:List AV}{x:AV}(h:nT 3 ys=some x):Aw Tryz.prog 67 ys x:=by
 unfold nT at h
 split at h
 ·rename_i t es
  obtain ⟨ns,hns,h⟩:=ah.1 h
  split at h
  ·rename_i hlen
   obtain rfl:=aa h
   obtain rfl:=Gv hns
   refine ⟨⟨Tryz.f67,Tryz.func67,rfl,by decide⟩,fun w I κ cargs hn0 hI hs ha=>?_⟩
   have h0:=ha 0 _ rfl
   obtain ⟨v0,rfl⟩:∃ v0,cargs=#[v0]:=by
    have hs2:cargs.size=1:=hs
    exact ⟨cargs.getD 0 undef,by
     apply tJ (by simpa using hs2)
     intro i h1 h2
     obtain rfl:i=0:=by omega
     simp [Array.getD,h1]⟩
   have h0:VR w I κ (.l t (ns.map (AV.i .i64))) v0:=h0
   have hin:∀ (v':Value)(w':World),w'.ownsRow w.heap.size 3 1 v' ns.length (ns.map (Value.int .i64))→Below w.heap.size w w'→
     ∃ v I',Ending.returned v'= .returned v∧VR w' I' κ (.l 3 (ns.map (AV.i .i64))) v∧w.heap.size≤w'.heap.size∧(∀ b,b<w.heap.size→w'.heap[b]? =w.heap[b]?)∧(∀ b,I b→I' b)∧(∀ b,I' b→I b∨w.heap.size≤b)∧(∀ b,I' b→b<w'.heap.size)∧w'.os=w.os∧w'.output=w.output:=fun v' w' ho hB=>by
    refine ⟨v',fun b=>I b∨(w.heap.size≤b∧b<w'.heap.size),rfl,?_,hB.size,fun b hb=>hB.block b hb,fun b hb=>.inl hb,fun b hb=>hb.imp id fun e=>e.1,fun b hb=>by rcases hb with hb | hb;exact eb (hI b hb) hB.size;exact hb.2,hB.os,hB.output⟩
    obtain ⟨_,⟨rfl,h0⟩ | ⟨g,cap,cur,rfl,hg,hh,hc1,hc2,hsz,htk⟩⟩:=ho
    ·rw [oy h0]
     exact .lnil _ _ _
    ·have hgl:g<w'.heap.size:=(nq.1 hh).1
     have:=VR.l (w:=w') (κ:=κ) (I:=fun b=>I b∨(w.heap.size≤b∧b<w'.heap.size)) 3 (ns.map (AV.i .i64)) g 0 cap cur 3 (0,0) 1 (.inr ⟨hg,hgl⟩) hh (fun _=>⟨fun _=>⟨rfl,rfl⟩,fun h=>absurd h (by have:=hn0.1;omega)⟩) (by omega)
      (fun e he=>by obtain ⟨n,_,rfl⟩:=eH.1 he;rfl) (by simp only [dC];omega) (fun e he=>by obtain ⟨n,_,rfl⟩:=eH.1 he;rfl) (fun e he c hc=>by obtain ⟨n,_,rfl⟩:=eH.1 he;simp only [AV.cl,fw] at hc;subst hc;rfl) (by simpa using hc1) hc2 (fun j e m c he hc=>by
       rw [gw] at he
       obtain ⟨n,hn,rfl⟩:=c9.1 he
       match m,hc with
       | 0,hc=>
        obtain rfl:=aa hc
        have hj:j<ns.length:=(dh.1 hn).1
        have h3:(cur.toList.take (ns.length*1))[j]? =some (.int .i64 n):=by rw [htk,gw,hn];rfl
        rw [CL (by omega),vG] at h3
        have hr:cur.getD (0+j*1+0) undef= .int .i64 n:=by rw [bn,eU,Nat.mul_one,lR,h3];rfl
        rw [hr]
        exact .i _ _)
     rwa [dC] at this
   generalize hes:ns.map (AV.i .i64)=es at h0
   cases h0 with
   | lnil _ A cap=>
    have hn0':ns=[]:=List.map_eq_nil_iff.1 hes
    subst hn0'
    cases A with
    | none=>
     refine (Tryz.slices_Clone_int_nil 0 cap w).mono ?_
     rintro e w' ⟨rfl,rfl⟩
     exact hin _ _ ⟨rfl,.inl ⟨rfl,rfl⟩⟩ (Below.refl _ _)
    | some a=>
     refine (Tryz.slices_Clone_int_zero a cap w).mono ?_
     rintro e w' ⟨v',rfl,ho,_,hB⟩
     exact hin _ _ ho hB
   | l _ _ g o cap cs T fz sz hIg hh ht hsz hnc hsize hp h1 hcap hmax hcell=>
    subst hes
    rw [dC]
    refine (Tryz.slices_Clone_int g o ns.length cap ns w (aS _) (by omega) (fun j hj=>?_)).mono ?_
    ·have he:(ns.map (AV.i .i64))[j]? =some (.i .i64 (ns.getD j 0)):=by rw [gw];simp [List.getD,aB hj]
     obtain rfl:(1:Nat)=sz:=hnc _ (aL he)
     have hb:=hcell j _ 0 _ he rfl
     simp only [dC] at hsize
     have hlt:o+j<cs.size:=by omega
     rw [bn,Nat.mul_one,lR,ku hlt] at hb
     unfold World.cell?
     simp only [hh,ku hlt]
     simp only [kt] at hb
     rw [hb.mK]
     rfl
    ·rintro e w' ⟨v',rfl,ho,_,hB⟩
     rw [CI] at ho
     exact hin _ _ ho hB
  ·cases h
 ·cases h
end Go.Proofs.YtkkkkondjclcnaaGreat.A
