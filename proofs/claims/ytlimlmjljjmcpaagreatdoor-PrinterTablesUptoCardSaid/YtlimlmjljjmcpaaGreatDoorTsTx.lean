import Derived.Test.YtlimlmjljjmcpaaGreatDoorTyX
import Derived.Test.YtlimlmjljjmcpaaGreatDoorTsY
import Derived.Test.YtlimlmjljjmcpaaGreatDoorTmY
namespace Go.Proofs.YtlimlmjljjmcpaaGreatDoor.Px
open Go Go.RowKit Go.Proofs.YtlimlmjljjmcpaaGreatDoor.Ps
set_option linter.unusedVariables false
set_option linter.unusedSimpArgs false
def c1H(tn:S)(L:List Col)(K:List Int)(Fs:List Fkey)(Cs:List X):S × Int:=a6Q (Cs.map (nmX L)) ((Cs.map (nmX L)).all pOk) (a0n tn L K Fs (Cs.map (nmX L)))
mutual
theorem b8K(L:List Col)(hc:∀c∈L,c.nm.length<4294967281):∀x:X,a2n L.length x->D_ x->nodes (nmX L x)<=nodes x/\D_ (nmX L x)
 |.mk op int vk vi vs nm l,hr,hs=>by
  rw[a2n] at hr
  rw[D_] at hs
  have hl:=b9H L hc l hr.2 hs.2
  by_cases h:op=2
  ·subst h
   obtain⟨⟨k0,k1⟩,rfl,rfl,rfl,rfl,rfl⟩:=hr.1 rfl
   have k2:int.toNat<L.length:=by omega
   have e:nmX L (.mk 2 int 0 0 [] [] [])=nmC L[int.toNat]:=by
    have:=b6j k2
    unfold a1x at this
    rwa [Int.toNat_of_nonneg k0] at this
   rw[e]
   unfold nmC
   refine⟨by simp[nodes,j_],?_⟩
   rw[D_]
   exact⟨⟨by simp,hc _ (List.getElem_mem k2)⟩,trivial⟩
  ·have e:nmX L (.mk op int vk vi vs nm l)=.mk op int vk vi vs nm (a0d (a5q (L.map nmC)) l):=by
    unfold nmX
    rw[a0e,if_neg h]
   rw[e,nodes,nodes,D_]
   exact⟨by omega,hs.1,hl.2⟩
theorem b9H(L:List Col)(hc:∀c∈L,c.nm.length<4294967281):∀l:List X,a5f L.length l->a0M l->j_ (a0d (a5q (L.map nmC)) l)<=j_ l/\a0M (a0d (a5q (L.map nmC)) l)
 |[],_,_=>by simp[a0d,j_,a0M]
 |x::l,hr,hs=>by
  rw[a5f] at hr
  rw[a0M] at hs
  have h1:=b8K L hc x hr.1 hs.1
  have h2:=b9H L hc l hr.2 hs.2
  unfold nmX at h1
  rw[a0d,j_,j_,a0M]
  exact⟨by omega,h1.2,h2.2⟩
end
theorem b5p(tn:S)(L:List Col)(K:List Int)(Fs:List Fkey)(Xs:List X):a0n tn L K Fs Xs ≠ []:=by
 unfold a0n
 simp
theorem b3R{tn:S}{L:List Col}{K:List Int}{Fs:List Fkey}{Xs:List X}(hN:nameB tn=true)(hC:a0f L)(hK:a2F L K)(hF:a0T L.length Fs)(hX:∀x∈Xs,nodes x<=2000/\pOk x=true)(hXl:Xs.length<=4):(a0n tn L K Fs Xs).length<=1000000000:=by
 have h1:=(a7s hN hC.2.1 hC.1.2 (a5J hC.1.2 hK)).1
 have h2:=a2i (B:=500) (M:=Fs.map (a0V L)) fun s hs=>by
  obtain⟨F,hF2,rfl⟩:=List.mem_map.1 hs
  exact a8I hC.2.1 hC.1.2 (hF.2 F hF2)
 have h3:=a2i (B:=1200100) (M:=Xs.map a0F) fun s hs=>by
  obtain⟨x,hx,rfl⟩:=List.mem_map.1 hs
  have:=hX x hx
  exact a8B this.1 this.2
 rw[List.length_map] at h2 h3
 have h4:Fs.length*500<=4*500:=Nat.mul_le_mul_right _ hF.1
 have h5:Xs.length*1200100<=4*1200100:=Nat.mul_le_mul_right _ hXl
 unfold a0n
 simp only[List.length_append,List.length_cons,List.length_nil]
 omega
structure TbFacts(tn:S)(L:List Col)(K:List Int)(Fs:List Fkey)(Cs:List X):Prop where
 nm:nameB tn=true
 cols:a0f L
 key:a2F L K
 fors:a0T L.length Fs
 clen:Cs.length<=4
 refs:∀x∈Cs,a2n L.length x
 xs:∀x∈Cs.map (nmX L),nodes x<=2000/\D_ x
theorem TbFacts.of{tn:S}{L:List Col}{K:List Int}{Fs:List Fkey}{Cs:List X}(h:a1D ⟨tn,L,K,Fs,Cs⟩)(hx:∀x∈Cs,nodes x<=2000/\D_ x):TbFacts tn L K Fs Cs:=by
 obtain⟨h1,h2,h3,h4,h5⟩:=h
 have hr:∀x∈Cs,a2n L.length x:=fun x hm=>by
  have:=b8A (h5.2 x hm).1
  rwa [show(y_ L).length=L.length by unfold y_;rw[List.length_map]] at this
 refine⟨h1,h2,h3,h4,h5.1,hr,fun y hy=>?_⟩
 obtain⟨x,hm,rfl⟩:=List.mem_map.1 hy
 have:=b8K L (fun c hc=>Nat.lt_of_le_of_lt (a0a (h2.2.1 c hc).1).1 (by decide)) x (hr x hm) (hx x hm).2
 exact⟨Nat.le_trans this.1 (hx x hm).1,this.2⟩
end Go.Proofs.YtlimlmjljjmcpaaGreatDoor.Px
