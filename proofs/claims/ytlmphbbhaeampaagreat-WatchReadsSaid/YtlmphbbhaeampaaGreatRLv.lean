/- The reference's levels. -/
import Derived.Test.YtlmphbbhaeampaaGreatSpkS
import Derived.Test.YtlmphbbhaeampaaGreatScopeP
import Derived.Test.YtlmphbbhaeampaaGreatFQ
set_option linter.all false
namespace Go.Proofs.YtlmphbbhaeampaaGreat.A
open Go
variable [Lp]
section
variable (a:an)(c:jV a=0)
include c
theorem SZ(i k:Int)(hi:dk a.Many i=true)(hk:dk a.Many k=true):pS a i k=some (eU a.Many.toNat a.Grants i.toNat k.toNat):=by
 obtain ⟨h1,h2,h3,h4⟩:=oY c
 have hg:=Pc a c
 obtain ⟨o,s⟩:0≤i∧i<a.Many:=by simpa [dk] using hi
 obtain ⟨f,r⟩:0≤k∧k<a.Many:=by simpa [dk] using hk
 have inner:∀ (n:Nat)(row:List Bool),row.length=a.Many.toNat→lp (fun v=>na a v.1 v.2) (row,0)=some (iW a.Grants row,a.Grants.length,false):=by
  intro n row hl
  have h:=ny (B:=fun v=>na a v.1 v.2) a.Grants.length (fun j=>(iW (a.Grants.take j) row,j)) (x:=(iW a.Grants row,a.Grants.length,false))
   (fun j hj=>by
    have d:=hg _ (cp hj)
    have hlen:(iW (a.Grants.take j) row).length=a.Many.toNat:=(Kg _ _).trans hl
    have e:iW (a.Grants.take (j+1)) row=lF (iW (a.Grants.take j) row) a.Grants[j]:=by grind [oZ,iW]
    simp only [na,show (j:Int)<(a.Grants.length:Int) by omega,aA,aV hj,ad,cA d.1.1,cA d.2.1,pK (row:=iW (a.Grants.take j) row) (k:=a.Grants[j].Who.toNat) (by omega),
     pK (row:=iW (a.Grants.take j) row) (k:=a.Grants[j].For.toNat) (by omega),kt j (by omega),e,lF]
    grind)
   (by simp [na])
  exact h
 have outer:=ny (B:=fun v=>nh a v.1 v.2) a.Many.toNat (fun n=>(ik a.Grants n (yP a.Many.toNat i.toNat),n)) (x:=(gR a.Many.toNat a.Grants i.toNat,a.Many.toNat,false))
  (fun n hn=>by
   have m:=inner n (ik a.Grants n (yP a.Many.toNat i.toNat)) ((by grind [oa,yP]))
   simp only [nh,show (n:Int)<a.Many by omega,aA,m,ad,kt n (by omega)]
   rfl)
  (by grind [nh,gR])
 have outer':lp (fun v=>nh a v.1 v.2) ((List.replicate a.Many.toNat false).set i.toNat true,0)=_:=outer
 have hz:(List.replicate a.Many.toNat false)[i.toNat]? =some false:=by grind
 have hr:=pK (row:=gR a.Many.toNat a.Grants i.toNat) (k:=k.toNat) (by rw [yR];omega)
 simp only [pS,cA (show 0≤a.Many by omega),ad,show a.Many.toNat≤1000000000 by omega,aA,cA o,hz,outer',cA f,hr,eU]
theorem afS(ps:List cb)(hp:Qg a.Many ps)(who:Nat)(hw:who<a.Many.toNat):BT a (who:Int) ps=some (vt a.Many.toNat a.Grants ps who):=by
 obtain ⟨h1,h2,h3,h4⟩:=oY c
 have hr:∀ n,dk a.Many n=true→pS a (who:Int) n=some (eU a.Many.toNat a.Grants who n.toNat):=by grind [SZ,vY]
 have inner:∀ (i:Nat)(hi:i<ps.length)(b:Bool),lp (fun v=>tC a (who:Int) ps i v.1 v.2) (b,0)=some (b||ps[i].Names.any (fun n=>eU a.Many.toNat a.Grants who n.toNat),ps[i].Names.length,false):=by
  intro i hi b
  obtain ⟨_,hl,hn⟩:=hp.2 _ (cp hi)
  have h:=ny (B:=fun v=>tC a (who:Int) ps i v.1 v.2) ps[i].Names.length (fun k=>(b||(ps[i].Names.take k).any (fun n=>eU a.Many.toNat a.Grants who n.toNat),k)) (x:=(b||ps[i].Names.any (fun n=>eU a.Many.toNat a.Grants who n.toNat),ps[i].Names.length,false))
   (fun k hk=>by
    have g:(k:Int)<(ps[i].Names.length:Int):=by omega
    simp only [tC,aV hi,aV hk,ad,g,aA,hr _ (hn _ (cp hk)),kt k (by omega),oZ hk,List.any_append,List.any_cons,List.any_nil]
    grind)
   (by grind [tC])
  simpa using h
 have outer:=acZ (B:=fun v=>tD a (who:Int) ps v) ps (fun p=>!(eU a.Many.toNat a.Grants who p.Owner.toNat||p.Names.any fun n=>eU a.Many.toNat a.Grants who n.toNat)) id (x:=.inl ()) (y:=.inr (ps.length,false))
  (fun i hi hq=>by
   obtain ⟨ho,_,_⟩:=hp.2 _ (cp hi)
   have q:(eU a.Many.toNat a.Grants who ps[i].Owner.toNat||ps[i].Names.any fun n=>eU a.Many.toNat a.Grants who n.toNat)=true:=by grind
   have:=hp.1
   grind [tD,kt])
  (fun i hi hq=>by
   obtain ⟨ho,_,_⟩:=hp.2 _ (cp hi)
   grind [tD])
  (by simp [tD])
 grind [BT,vt,MO]
theorem S0(l:Label)(hf:kx a.Many l=0):wa a l=some (dm a l):=by
 obtain ⟨h1,h2,h3,h4⟩:=oY c
 obtain ⟨hr,hw⟩:=vo hf
 have h:=ny (B:=fun v=>pN a l v.1 v.2.1 v.2.2) a.Many.toNat (fun k=>(k,(List.range k).map (vt a.Many.toNat a.Grants l.Read),(List.range k).map (vt a.Many.toNat a.Grants l.Write)))
  (x:=(a.Many.toNat,false,(List.range a.Many.toNat).map (vt a.Many.toNat a.Grants l.Read),(List.range a.Many.toNat).map (vt a.Many.toNat a.Grants l.Write)))
  ((by grind [pN,afS,MN,kt,List.range_succ]))
  (by grind [pN])
 grind [wa,dm]
end
end Go.Proofs.YtlmphbbhaeampaaGreat.A
