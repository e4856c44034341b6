import Derived.Test.YtlimlmjljjmcpaaGreatDoorRows
import Derived.Test.YtlimlmjljjmcpaaGreatDoorBtA
namespace Go.Proofs.YtlimlmjljjmcpaaGreatDoor.Bk
open Go Go.RowKit
set_option linter.unusedVariables false
set_option linter.unusedSimpArgs false
theorem a4s{H:Type}{d:DataW H}:∀ {l:List (DataW H)},d∈l->Rows.uptoBulk d<=Rows.uptoBulkAll l
 |x::l,h=>by
  rw[Rows.uptoBulkAll]
  rcases List.mem_cons.1 h with rfl|h
  ·omega
  ·have:=a4s h
   omega
theorem b1N{H:Type}{xs:List Ps.C}{d:DataW H}(h:Ps.Fits (.a xs) d):∃parts,d=.agg parts/\xs.length=parts.length /\ ∀i (h1:i<xs.length) (h2:i<parts.length),Ps.Fits xs[i] parts[i]:=by
 cases h with
 |a hl hx=>exact⟨_,rfl,hl,hx⟩
theorem b1A{H:Type}{xs:List Ps.C}{d:DataW H}(h:Ps.Fits (.s xs) d):(xs=[]/\d=.nil) \/ ∃elems spare,d=.slice elems spare/\xs.length=elems.length /\ ∀i (h1:i<xs.length) (h2:i<elems.length),Ps.Fits xs[i] elems[i]:=by
 cases h with
 |nil=>exact .inl ⟨rfl,rfl⟩
 |s hl hx=>exact .inr ⟨_,_,rfl,hl,hx⟩
theorem a9d{H:Type}{s:Px.S}{d:DataW H}(h:Ps.Fits (.l (Px.S_ s)) d):Rows.uptoBulk d=s.length+1:=by
 unfold Px.S_ at h
 cases h
 simp[Rows.uptoBulk]
theorem b0K{H:Type}{N:Nat}(IH:∀(x:Px.X) (d:DataW H),Px.nodes x<=N->Ps.Fits (Px.toC x) d->2*Px.nodes x<=Rows.uptoBulk d/\(Rows.uptoBulk d<=1048576->Px.D_ x)):∀(l:List Px.X) (es:List (DataW H)),Px.j_ l<=N->(Px.a1Q l).length=es.length->(∀i (h1:i<(Px.a1Q l).length) (h2:i<es.length),Ps.Fits (Px.a1Q l)[i] es[i])->2*Px.j_ l<=Rows.uptoBulkAll es/\(Rows.uptoBulkAll es<=1048576->Px.a0M l):=by
 intro l
 induction l with
 |nil=>intro es _ _ _;exact⟨by simp[Px.j_],fun _=>by simp[Px.a0M]⟩
 |cons x l ih=>
  intro es hn hl hx
  rw[Px.a1Q] at hl
  match es,hl,hx with
  |e::es,hl,hx=>
   rw[Px.j_] at hn
   have h0:=hx 0 (by simp[Px.a1Q]) (by simp)
   simp only[Px.a1Q,List.getElem_cons_zero] at h0
   have i1:=IH x e (by omega) h0
   have i2:=ih es (by omega) (by simpa using hl) (fun i h1 h2=>by
    have:=hx (i+1) (by simp[Px.a1Q];omega) (by simp;omega)
    simpa[Px.a1Q] using this)
   rw[Px.j_,Rows.uptoBulkAll,Px.a0M]
   exact⟨by omega,fun hb=>⟨i1.2 (by omega),i2.2 (by omega)⟩⟩
theorem b1H{H:Type}:∀(N:Nat) (x:Px.X) (d:DataW H),Px.nodes x<=N->Ps.Fits (Px.toC x) d->2*Px.nodes x<=Rows.uptoBulk d/\(Rows.uptoBulk d<=1048576->Px.D_ x)
 |0,x,d,h,_=>absurd (Px.U_ x) (by omega)
 |N+1,.mk op int vk vi vs nm l,d,h,hf=>by
  rw[Px.nodes] at h
  rw[Px.toC] at hf
  obtain⟨parts,rfl,hl,hx⟩:=b1N hf
  have h2:2<parts.length:=by simp at hl;omega
  have h3:3<parts.length:=by simp at hl;omega
  have h4:4<parts.length:=by simp at hl;omega
  have f2:=hx 2 (by simp) h2
  have f3:=hx 3 (by simp) h3
  have f4:=hx 4 (by simp) h4
  simp only[List.getElem_cons_succ,List.getElem_cons_zero] at f2 f3 f4
  have b2:vs.length+1<=Rows.uptoBulk parts[2]:=by
   obtain⟨ps,e,hl2,hx2⟩:=b1N f2
   rw[e,Rows.uptoBulk]
   have k2:2<ps.length:=by simp at hl2;omega
   have g2:=hx2 2 (by simp) k2
   simp only[List.getElem_cons_succ,List.getElem_cons_zero] at g2
   have:=a9d g2
   have:=a4s (List.getElem_mem k2)
   omega
  have b3:=a9d f3
  have b4:2*Px.j_ l<=Rows.uptoBulk parts[4]/\(Rows.uptoBulk parts[4]<=1048576->Px.a0M l):=by
   rcases b1A f4 with⟨hc,_⟩|⟨es,sp,e,hl4,hx4⟩
   ·have hl0:l=[]:=by
     cases l with
     |nil=>rfl
     |cons x l=>rw[Px.a1Q] at hc;cases hc
    subst hl0
    exact⟨by simp[Px.j_],fun _=>by simp[Px.a0M]⟩
   ·have:=b0K (fun x d=>b1H N x d) l es (by omega) hl4 hx4
    rw[e,Rows.uptoBulk]
    exact⟨by omega,fun hb=>this.2 (by omega)⟩
  have sum:Rows.uptoBulk parts[2]+(Rows.uptoBulk parts[3]+Rows.uptoBulk parts[4])<=Rows.uptoBulkAll parts:=by
   match parts,hl with
   |[d0,d1,d2,d3,d4],_=>
    simp only[Rows.uptoBulkAll,List.getElem_cons_succ,List.getElem_cons_zero]
    omega
  rw[Rows.uptoBulk,Px.nodes,Px.D_]
  exact⟨by omega,fun hb=>⟨⟨by omega,by omega⟩,b4.2 (by omega)⟩⟩
theorem bulk_pos{H:Type}(d:DataW H):1<=Rows.uptoBulk d\/d matches .iface _ _:=by
 cases d with
 |lit l=>cases l<;>simp[Rows.uptoBulk]
 |_=>simp[Rows.uptoBulk]
theorem a4W{H:Type}{xs:List Ps.C}{d:DataW H}(h:Ps.Fits (.s xs) d)(i:Nat)(hi:i<xs.length):∃e:DataW H,Ps.Fits xs[i] e/\Rows.uptoBulk e<=Rows.uptoBulk d:=by
 rcases b1A h with⟨rfl,_⟩|⟨es,sp,rfl,hl,hx⟩
 ·simp at hi
 ·have hi2:i<es.length:=by omega
  have:=a4s (List.getElem_mem hi2)
  rw[Rows.uptoBulk]
  exact⟨_,hx i hi hi2,by omega⟩
theorem b2Q{H:Type}{q:Nat}{xs:List Ps.C}{d:DataW H}(h:Ps.Fits (.s xs) d)(h1:∀i (hi:i<xs.length) (e:DataW H),Ps.Fits xs[i] e->q<=Rows.uptoBulk e):q*xs.length<=Rows.uptoBulk d:=by
 rcases b1A h with⟨rfl,rfl⟩|⟨es,sp,rfl,hl,hx⟩
 ·simp
 ·have gen:∀(xs:List Ps.C) (es:List (DataW H)),xs.length=es.length->(∀i (h1:i<xs.length) (h2:i<es.length),Ps.Fits xs[i] es[i])->(∀i (hi:i<xs.length) (e:DataW H),Ps.Fits xs[i] e->q<=Rows.uptoBulk e)->q*xs.length<=Rows.uptoBulkAll es:=by
   intro xs
   induction xs with
   |nil=>intro es _ _ _;simp
   |cons x xs ih=>
    intro es hl hx hq
    match es,hl with
    |e::es,hl=>
     have h0:=hq 0 (by simp) e (hx 0 (by simp) (by simp))
     have h1:=ih es (by simpa using hl) (fun i h1 h2=>by
      have:=hx (i+1) (by simp;omega) (by simp;omega)
      simpa using this) (fun i hi e he=>hq (i+1) (by simp;omega) e (by simpa using he))
     rw[Rows.uptoBulkAll,List.length_cons,Nat.mul_add]
     omega
  have:=gen xs es hl hx h1
  rw[Rows.uptoBulk]
  omega
theorem a1z{H:Type}{xs:List Ps.C}{d:DataW H}(h:Ps.Fits (.a xs) d)(i:Nat)(hi:i<xs.length):∃e:DataW H,Ps.Fits xs[i] e/\Rows.uptoBulk e<=Rows.uptoBulk d:=by
 obtain⟨ps,rfl,hl,hx⟩:=b1N h
 have hi2:i<ps.length:=by omega
 have:=a4s (List.getElem_mem hi2)
 rw[Rows.uptoBulk]
 exact⟨_,hx i hi hi2,by omega⟩
theorem b9y{H:Type}{n:Int}{d:DataW H}(h:Ps.Fits (Px.a6R n) d):1<=Rows.uptoBulk d:=by
 unfold Px.a6R at h
 cases h
 simp[Rows.uptoBulk]
theorem b9a{H:Type}{xs:List Ps.C}{d:DataW H}(h:Ps.Fits (.a xs) d)(s:Px.S)(hi:0<xs.length)(h0:xs[0]=.l (Px.S_ s)):2<=Rows.uptoBulk d:=by
 obtain⟨ps,rfl,hl,hx⟩:=b1N h
 have hi2:0<ps.length:=by omega
 have h2:=hx 0 hi hi2
 rw[h0] at h2
 have:=a9d h2
 have:=a4s (List.getElem_mem hi2)
 rw[Rows.uptoBulk]
 omega
theorem b7E{H:Type}{L:List Px.Col}{d:DataW H}(h:Ps.Fits (.s (L.map Px.a5h)) d):2*L.length<=Rows.uptoBulk d:=by
 have:=b2Q (q:=2) h (fun i hi e he=>by
  rw[List.getElem_map] at he
  unfold Px.a5h at he
  exact b9a he _ (by simp) rfl)
 simpa using this
theorem b0T{H:Type}{L:List Int}{d:DataW H}(h:Ps.Fits (.s (L.map Px.a6R)) d):L.length<=Rows.uptoBulk d:=by
 have:=b2Q (q:=1) h (fun i hi e he=>by
  rw[List.getElem_map] at he
  exact b9y he)
 simpa using this
theorem b7p{H:Type}{L:List Px.Fkey}{d:DataW H}(h:Ps.Fits (.s (L.map Px.a2s)) d):∀f∈L,f.cols.length<=Rows.uptoBulk d:=fun f hf=>by
 obtain⟨i,hi,rfl⟩:=List.getElem_of_mem hf
 obtain⟨e,he,hb⟩:=a4W h i (by simpa using hi)
 rw[List.getElem_map] at he
 unfold Px.a2s at he
 obtain⟨e2,he2,hb2⟩:=a1z he 0 (by simp)
 have:=b0T he2
 omega
theorem b4G{H:Type}{L:List Px.X}{d:DataW H}(h:Ps.Fits (.s (Px.a1Q L)) d)(hd:Rows.uptoBulk d<=1048576):∀x∈L,Px.nodes x<=1000000/\Px.D_ x:=fun x hx=>by
 obtain⟨i,hi,rfl⟩:=List.getElem_of_mem hx
 rw[Px.a0l] at h
 obtain⟨e,he,hb⟩:=a4W h i (by simpa using hi)
 rw[List.getElem_map] at he
 have:=b1H _ L[i] e (Nat.le_refl _) he
 exact⟨by omega,this.2 (by omega)⟩
theorem b4V{H:Type}{t:Px.Tbl}{d:DataW H}(h:Ps.Fits (Px.b3w t) d)(hd:Rows.uptoBulk d<=1048576):t.cols.length<=1000000/\t.key.length<=1099511627776/\(∀f∈t.fors,f.cols.length<=1099511627776) /\ ∀x∈t.checks,Px.nodes x<=1000000/\Px.D_ x:=by
 unfold Px.b3w at h
 obtain⟨e1,f1,b1⟩:=a1z h 1 (by simp)
 obtain⟨e2,f2,b2⟩:=a1z h 2 (by simp)
 obtain⟨e3,f3,b3⟩:=a1z h 3 (by simp)
 obtain⟨e4,f4,b4⟩:=a1z h 4 (by simp)
 have:=b7E f1
 have:=b0T f2
 have h3:=b7p f3
 exact⟨by omega,by omega,fun f hf=>by have:=h3 f hf;omega,b4G f4 (by omega)⟩
theorem b9F{H:Type}{L:List Px.X}{d:DataW H}(h:Ps.Fits (.s (Px.a1Q L)) d):2*Px.j_ L<=Rows.uptoBulk d:=by
 rcases b1A h with⟨hc,_⟩|⟨es,sp,e,hl,hx⟩
 ·cases L with
  |nil=>simp[Px.j_]
  |cons x l=>rw[Px.a1Q] at hc;cases hc
 ·have:=(b0K (fun x d=>b1H (Px.j_ L) x d) L es (Nat.le_refl _) hl hx).1
  rw[e,Rows.uptoBulk]
  omega
theorem b9d{H:Type}{n:Int}{d:DataW H}(h:Ps.Fits (Px.a6R n) d):-9223372036854775808<=n/\n<=9223372036854775807:=by
 unfold Px.a6R at h
 cases h with
 |int _ _ hw=>
  unfold Lit.wf at hw
  rw[Bool.and_eq_true,decide_eq_true_eq,decide_eq_true_eq] at hw
  exact hw
theorem b7Z{H:Type}{L:List Px.Fkey}{d:DataW H}(h:Ps.Fits (.s (L.map Px.a2s)) d):∀f∈L,∀c∈f.cols,-9223372036854775808<=c/\c<=9223372036854775807:=fun f hf c hc=>by
 obtain⟨i,hi,rfl⟩:=List.getElem_of_mem hf
 obtain⟨e,he,hb⟩:=a4W h i (by simpa using hi)
 rw[List.getElem_map] at he
 unfold Px.a2s at he
 obtain⟨e2,he2,_⟩:=a1z he 0 (by simp)
 obtain⟨j,hj,rfl⟩:=List.getElem_of_mem hc
 have he3:Ps.Fits (.s (L[i].cols.map Px.a6R)) e2:=he2
 obtain⟨e4,he4,_⟩:=a4W he3 j (by simpa using hj)
 rw[List.getElem_map] at he4
 exact b9d he4
theorem b9o{H:Type}{t:Px.Tbl}{d:DataW H}(h:Ps.Fits (Px.b3w t) d)(hd:Rows.uptoBulk d<=1048576):t.cols.length<=1000000/\t.key.length<=1099511627776/\(∀f∈t.fors,f.cols.length<=1099511627776 /\ ∀c∈f.cols,-9223372036854775808<=c/\c<=9223372036854775807)/\t.checks.length<=1000000/\Px.j_ t.checks<=1048576 /\ ∀x∈t.checks,Px.D_ x:=by
 have k:=b4V h hd
 unfold Px.b3w at h
 obtain⟨e3,f3,_⟩:=a1z h 3 (by simp)
 obtain⟨e4,f4,b4⟩:=a1z h 4 (by simp)
 have:=b9F f4
 have:=Px.a0B t.checks
 exact⟨k.1,k.2.1,fun f hf=>⟨k.2.2.1 f hf,b7Z f3 f hf⟩,by omega,by omega,fun x hx=>(k.2.2.2 x hx).2⟩
end Go.Proofs.YtlimlmjljjmcpaaGreatDoor.Bk
