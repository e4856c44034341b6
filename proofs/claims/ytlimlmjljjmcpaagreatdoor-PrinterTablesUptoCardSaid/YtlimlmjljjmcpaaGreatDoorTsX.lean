import Derived.Test.YtlimlmjljjmcpaaGreatDoorBpX
import Derived.Test.YtlimlmjljjmcpaaGreatDoorPxLaw
import Derived.Test.YtlimlmjljjmcpaaGreatDoorPsA
import Derived.Test.YtlimlmjljjmcpaaGreatDoorAxB
import Derived.Test.YtlimlmjljjmcpaaGreatDoorPxA
import Derived.KernelRfl
import Derived.Test.YtlimlmjljjmcpaaGreatDoorBdA
import Derived.Test.YtlimlmjljjmcpaaGreatDoorPxB
set_option maxHeartbeats 16000000
set_option maxRecDepth 100000
namespace Go.Proofs.YtlimlmjljjmcpaaGreatDoor.Px
open Go Go.RowKit Go.Proofs.YtlimlmjljjmcpaaGreatDoor.Ps
set_option linter.unusedVariables false
set_option linter.unusedSimpArgs false
def a2g(k:Int):S:=if k=1 then[73,78,84] else if k=2 then[84,69,88,84] else if k=3 then[66,79,79,76] else[]
def a0w(c:Col):S:=c.nm++[32]++a2g c.kind++(if c.nul then[32,78,85,76,76] else[])
def a1k(L:List Col)(i:Int):S:=match L[i.toNat]? with|some c=>c.nm|none=>[]
def namesT(L:List Col)(K:List Int):S:=[40]++Lib.join (K.map (a1k L)) [44,32]++[41]
def a0V(L:List Col)(F:Fkey):S:=[44,32,70,79,82,69,73,71,78,32,75,69,89,32]++namesT L F.cols++[32,82,69,70,69,82,69,78,67,69,83,32]++F.tb
def a0F(x:X):S:=[44,32,67,72,69,67,75,32,40]++txt x++[41]
def a6e(tn:S)(L:List Col)(K:List Int):S:=[67,82,69,65,84,69,32,84,65,66,76,69,32]++tn++[32,40]++Lib.join (L.map a0w) [44,32]++[44,32,80,82,73,77,65,82,89,32,75,69,89,32]++namesT L K
def a0n(tn:S)(L:List Col)(K:List Int)(Fs:List Fkey)(Xs:List X):S:=a6e tn L K++(Fs.map (a0V L)).flatten++(Xs.map a0F).flatten++[41]
theorem b1F{L:List Col}{i:Int}(h:i.toNat<L.length):a1k L i=L[i.toNat].nm:=by unfold a1k;rw[List.getElem?_eq_getElem h]
theorem b9p{B:Nat}{sep:S}:∀ {M:List S},(∀s∈M,s.length<=B)->(Lib.joinTail sep M).length<=M.length*(B+sep.length)
 |[],_=>by simp[Lib.joinTail]
 |x::r,h=>by
  have h1:=b9p (sep:=sep) fun s hs=>h s (List.mem_cons_of_mem _ hs)
  have h2:=h x (by simp)
  have e:Lib.joinTail sep (x::r)=(sep++x)++Lib.joinTail sep r:=by simp[Lib.joinTail]
  rw[e,List.length_append,List.length_append,List.length_cons,Nat.succ_mul]
  omega
theorem a8E{B:Nat}{sep:S}{M:List S}(h:∀s∈M,s.length<=B):(Lib.join M sep).length<=M.length*(B+sep.length):=by
 cases M with
 |nil=>simp[Lib.join_nil]
 |cons x r=>
  rw[Lib.join_cons,List.length_append,List.length_cons,Nat.succ_mul]
  have h1:=b9p (sep:=sep) fun s hs=>h s (List.mem_cons_of_mem _ hs)
  have h2:=h x (by simp)
  omega
theorem a0a{s:S}(h:nameB s=true):s.length<=24/\s ≠ []:=by
 unfold nameB at h
 simp only[Bool.and_eq_true,decide_eq_true_eq] at h
 refine⟨h.2.1,fun e=>?_⟩
 rw[e] at h
 simp at h
theorem b0V(k:Int):(a2g k).length<=4:=by
 unfold a2g
 split
 ·decide
 ·split
  ·decide
  ·split<;>decide
theorem b2I{k:Int}(h:1<=k/\k<=3):(a2g k).isEmpty=false:=by
 have:k=1\/k=2\/k=3:=by omega
 rcases this with rfl|rfl|rfl<;>rfl
theorem a5Z{c:Col}(h:a1C c):(a0w c).length<=40:=by
 have h1:=(a0a h.1).1
 have h2:=b0V c.kind
 unfold a0w
 simp only[List.length_append,List.length_singleton]
 split<;>simp<;>omega
def Cis(n:Nat)(K:List Int):Prop:=K.length ≠ 0/\K.length<=12 /\ ∀i∈K,exB i n=true
theorem a3P{i:Int}{n:Nat}:exB i n=true↔0<=i/\i<(n:Int):=by
 unfold exB
 simp[Bool.and_eq_true,decide_eq_true_eq]
theorem a8m{L:List Col}{i:Int}(hL:∀c∈L,a1C c)(h:exB i L.length=true):nameB (a1k L i)=true:=by
 have h1:=a3P.1 h
 have h2:i.toNat<L.length:=by omega
 rw[b1F h2]
 exact(hL _ (List.getElem_mem h2)).1
theorem a1u{L:List Col}{K:List Int}(hL:∀c∈L,a1C c)(h:Cis L.length K):(namesT L K).length<=400/\namesT L K ≠ []/\(Lib.join (K.map (a1k L)) [44,32]).length<=390:=by
 have h1:=a8E (B:=24) (sep:=[44,32]) (M:=K.map (a1k L)) fun s hs=>by
  obtain⟨i,hi,rfl⟩:=List.mem_map.1 hs
  exact(a0a (a8m hL (h.2.2 i hi))).1
 rw[List.length_map] at h1
 have h2:K.length*(24+2)<=12*26:=Nat.mul_le_mul_right _ h.2.1
 unfold namesT
 refine⟨?_,by simp,?_⟩
 ·simp only[List.length_append,List.length_singleton]
  simp only[List.length_cons,List.length_nil] at h1
  omega
 ·simp only[List.length_cons,List.length_nil] at h1
  omega
theorem b6A{n:Nat}:∀ {K:List Int} {lo:Int},(∀i∈K,lo<=i/\i<n)->(∀j (h:j<K.length) (h0:0<j),K[j - 1]<K[j])->(K.length:Int)<=max 0 (n - lo)
 |[],lo,_,_=>by simp;omega
 |x::r,lo,h1,h2=>by
  have hx:=h1 x (by simp)
  have hr:∀j (h:j<r.length),x+1<=r[j]:=by
   intro j
   induction j with
   |zero=>intro h;have:=h2 1 (by simp;omega) (by omega);simp at this;omega
   |succ j ih=>intro h;have a:=ih (by omega);have:=h2 (j+2) (by simp;omega) (by omega);simp at this;omega
  have:=b6A (K:=r) (lo:=x+1) (fun i hi=>by
   obtain⟨j,hj,rfl⟩:=List.mem_iff_getElem.1 hi
   exact⟨hr j hj,(h1 _ (List.mem_cons_of_mem _ hi)).2⟩) (fun j h h0=>by
   have:=h2 (j+1) (by simpa using h) (by omega)
   have e:(x::r)[j+1 - 1]'(by simp;omega)=r[j - 1]:=by
    cases j with
    |zero=>omega
    |succ j=>simp
   rw[e] at this
   simpa using this)
  rw[List.length_cons]
  push_cast
  omega
theorem a5J{L:List Col}{K:List Int}(hn:L.length<=12)(h:a2F L K):Cis L.length K:=by
 have h3:∀i∈K,exB i L.length=true:=fun i hi=>by
  obtain⟨j,hj,rfl⟩:=List.mem_iff_getElem.1 hi
  exact(h.2 j hj).1
 refine⟨h.1,?_,h3⟩
 have h4:=b6A (n:=L.length) (K:=K) (lo:=0) (fun i hi=>a3P.1 (h3 i hi)) fun j hj h0=>(h.2 j hj).2.1 h0
 omega
theorem a7a:∀(n:Nat) (F:List Int),(∀i∈F,0<=i/\i<(n:Int))->F.Nodup->F.length<=n
 |0,[],_,_=>Nat.le_refl _
 |0,x::r,h,_=>absurd (h x (by simp)) (by omega)
 |n+1,F,h,hd=>by
  by_cases hm:(n:Int)∈F
  ·have h1:=a7a n (F.erase (n:Int)) (fun i hi=>by
    have a:=h i (List.mem_of_mem_erase hi)
    have b:i ≠ (n:Int):=fun e=>by rw[e] at hi;exact hd.not_mem_erase hi
    omega) (hd.sublist List.erase_sublist)
   have h2:=List.length_erase_of_mem hm
   have h3:0<F.length:=List.length_pos_of_mem hm
   omega
  ·have h1:=a7a n F (fun i hi=>by
    have a:=h i hi
    have b:i ≠ (n:Int):=fun e=>hm (e ▸ hi)
    omega) hd
   omega
theorem a6u{n:Nat}{F:List Int}{tb:S}(hn:n<=12)(h:a2h n F tb):Cis n F:=by
 have h3:∀i∈F,exB i n=true:=fun i hi=>by
  obtain⟨j,hj,rfl⟩:=List.mem_iff_getElem.1 hi
  exact(h.2.2 j hj).1
 refine⟨h.2.1,?_,h3⟩
 have h4:F.Nodup:=by
  exact List.pairwise_iff_getElem.2 fun i j hi hj hl=>(h.2.2 j hj).2 i hl
 have:=a7a n F (fun i hi=>a3P.1 (h3 i hi)) h4
 omega
def zQ:List Value:=[.int .i64 0,.bool false,.bool false,.slice none 0 0,.string ⟨#[]⟩,.string ⟨#[]⟩,.int .i64 0,.int .i64 0,.int .i64 0,.int .i64 0,.slice none 0 0,.bool false,.int .i64 0,.int .i64 0,.int .i64 0,.int .i64 0,.string ⟨#[]⟩,.string ⟨#[]⟩,.slice none 0 0,.slice none 0 0,.slice none 0 0,.slice none 0 0,.int .i64 0]
def stC(tb:List Value)(ck:Value):List Value:=[.int .i64 5,.int .i64 0,.int .i64 0,.int .i64 0,.int .i64 0,.bool false,.bool false,.slice none 0 0,.string ⟨#[]⟩,.string ⟨#[]⟩,.int .i64 0,.int .i64 0,.int .i64 0,.int .i64 0,.slice none 0 0,.bool false,.int .i64 0,.int .i64 0,.int .i64 0,.int .i64 0,.string ⟨#[]⟩,.string ⟨#[]⟩,.slice none 0 0,.slice none 0 0,.slice none 0 0,.slice none 0 0,.int .i64 0,.string ⟨#[]⟩,.slice none 0 0,.slice none 0 0,.bool false,.int .i64 0,.int .i64 0,.int .i64 0,.int .i64 0,.string ⟨#[]⟩,.string ⟨#[]⟩,.slice none 0 0]++(tb++ck::[.int .i64 0,.string ⟨#[]⟩,.string ⟨#[]⟩,.string ⟨#[]⟩,.int .i64 0,.bool false,.int .i64 0,.int .i64 0,.string ⟨#[]⟩,.string ⟨#[]⟩,.string ⟨#[]⟩,.int .i64 0,.int .i64 0,.int .i64 0,.int .i64 0,.int .i64 0])
def tbC(tn:S)(a:Option Addr)(n m:Nat)(a2:Option Addr)(n2 m2:Nat)(a3:Option Addr)(n3 m3:Nat):List Value:=[.string ⟨tn.toArray⟩,.slice a n m,.slice a2 n2 m2,.slice a3 n3 m3,.slice none 0 0]
theorem a1s(tb:List Value)(ck:Value)(h:tb.length=5):(stC tb ck).length=60:=by
 unfold stC
 simp[h]
end Go.Proofs.YtlimlmjljjmcpaaGreatDoor.Px
namespace Go.Proofs.YtlimlmjljjmcpaaGreatDoor.Px
open Go Go.RowKit Go.Proofs.YtlimlmjljjmcpaaGreatDoor.Ps
set_option linter.unusedVariables false
set_option linter.unusedSimpArgs false
open Ax in
def okR:RV->Bool
 |.lit _=>true
 |.str []=>true
 |.opq _=>true
 |_=>false
open Ax in
def shV(env:Nat->Value):RV->Value
 |.lit v=>v
 |.opq i=>env i
 |_=>.string ⟨#[]⟩
open Ax in
theorem c1u{g:Gm}{env:Nat->Value}(h1:∀i,(env i).cells=#[env i]/\(env i).oneCell'=true){r:RV}(h:okR r=true):R g env r (shV env r):=by
 unfold okR at h
 split at h
 ·exact .lit _
 ·exact .str (l:=[]) (fun x hx=>by cases hx)
 ·exact .opq _ (h1 _).1 (h1 _).2
 ·cases h
open Ax in
theorem b5v{g:Gm}{env:Nat->Value}{r:RV}{v:Value}(h:okR r=true)(hr:R g env r v):v=shV env r:=by
 unfold okR at h
 split at h
 iterate 3
  ·cases hr;rfl
 ·cases h
open Ax in
theorem b9z{g:Gm}{env:Nat->Value}(h1:∀i,(env i).cells=#[env i]/\(env i).oneCell'=true){l:List RV}(h:l.all okR=true):R g env (.agg l) (.agg (l.map (shV env)).toArray):=
 .agg (by simp) fun i k1 k2=>by
  have e:(l.map (shV env)).toArray[i]=shV env l[i]:=by simp
  rw[e]
  exact c1u h1 (List.all_eq_true.1 h _ (List.getElem_mem k1))
open Ax in
theorem c2n{g:Gm}{env:Nat->Value}{l:List RV}{v:Value}(h:l.all okR=true)(hr:R g env (.agg l) v):v=.agg (l.map (shV env)).toArray:=by
 cases hr with
 | @agg _ vs hn hh=>
  refine congrArg Value.agg (Array.ext (by simp[hn]) fun i k1 k2=>?_)
  have k3:i<l.length:=by omega
  have:=b5v (List.all_eq_true.1 h _ (List.getElem_mem k3)) (hh i k3 k1)
  simpa using this
open Ax in
def isA(r0:List RV):Option (RE × Hp × Nat)->Bool
 |some (.ret (.agg l),_,_)=>a4B l r0
 |_=>false
open Ax in
def isO(r0:RV):Option (RE × Hp × Nat)->Bool
 |some (.ret r,_,_)=>a1w r r0
 |_=>false
open Ax in
theorem c0c{d:Nat}{f:FuncId}{A r0:List RV}(hr:isA r0 (a0y Tryz.prog a0Y (a0E Tryz.prog) d (.fn f) [.agg A] .leaf 0)=true)(hA:A.all okR=true)(h0:r0.all okR=true)(env:Nat->Value)(h1:∀i,(env i).cells=#[env i]/\(env i).oneCell'=true)(w:World)(ht:a0O w):Calls Tryz.prog f #[.agg (A.map (shV env)).toArray] w (Ret w (.agg (r0.map (shV env)).toArray)):=by
 generalize hx:a0y Tryz.prog a0Y (a0E Tryz.prog) d (.fn f) [.agg A] .leaf 0=x at hr
 match x,hr with
 |some (.ret (.agg l),h',nx'),hr=>
  have e:=a3i (show a4B l r0=true from hr)
  subst e
  refine a4r (a6j Tryz.prog) hx env [.agg (A.map (shV env)).toArray] (b1V (b9z h1 hA) b1n) w ht trivial _ fun g v w' k1 _ k3=>?_
  exact⟨by rw[c2n h0 k1],k3⟩
open Ax in
theorem a7q{d:Nat}{f:FuncId}{A:List RV}{r0:RV}(hr:isO r0 (a0y Tryz.prog a0Y (a0E Tryz.prog) d (.fn f) [.agg A] .leaf 0)=true)(hA:A.all okR=true)(h0:okR r0=true)(env:Nat->Value)(h1:∀i,(env i).cells=#[env i]/\(env i).oneCell'=true)(w:World)(ht:a0O w):Calls Tryz.prog f #[.agg (A.map (shV env)).toArray] w (Ret w (shV env r0)):=by
 generalize hx:a0y Tryz.prog a0Y (a0E Tryz.prog) d (.fn f) [.agg A] .leaf 0=x at hr
 match x,hr with
 |some (.ret r,h',nx'),hr=>
  have e:=a6m (show a1w r r0=true from hr)
  subst e
  refine a4r (a6j Tryz.prog) hx env [.agg (A.map (shV env)).toArray] (b1V (b9z h1 hA) b1n) w ht trivial _ fun g v w' k1 _ k3=>?_
  exact⟨by rw[b5v h0 k1],k3⟩
open Ax in
def stR:List RV:=[.lit (.int .i64 5),.lit (.int .i64 0),.lit (.int .i64 0),.lit (.int .i64 0),.lit (.int .i64 0),.lit (.bool false),.lit (.bool false),.lit (.slice none 0 0),.str [],.str [],.lit (.int .i64 0),.lit (.int .i64 0),.lit (.int .i64 0),.lit (.int .i64 0),.lit (.slice none 0 0),.lit (.bool false),.lit (.int .i64 0),.lit (.int .i64 0),.lit (.int .i64 0),.lit (.int .i64 0),.str [],.str [],.lit (.slice none 0 0),.lit (.slice none 0 0),.lit (.slice none 0 0),.lit (.slice none 0 0),.lit (.int .i64 0),.str [],.lit (.slice none 0 0),.lit (.slice none 0 0),.lit (.bool false),.lit (.int .i64 0),.lit (.int .i64 0),.lit (.int .i64 0),.lit (.int .i64 0),.str [],.str [],.lit (.slice none 0 0),.opq 0,.opq 1,.opq 2,.opq 3,.lit (.slice none 0 0),.opq 4,.lit (.int .i64 0),.str [],.str [],.str [],.lit (.int .i64 0),.lit (.bool false),.lit (.int .i64 0),.lit (.int .i64 0),.str [],.str [],.str [],.lit (.int .i64 0),.lit (.int .i64 0),.lit (.int .i64 0),.lit (.int .i64 0),.lit (.int .i64 0)]
open Ax in
def zqR:List RV:=[.lit (.int .i64 0),.lit (.bool false),.lit (.bool false),.lit (.slice none 0 0),.str [],.str [],.lit (.int .i64 0),.lit (.int .i64 0),.lit (.int .i64 0),.lit (.int .i64 0),.lit (.slice none 0 0),.lit (.bool false),.lit (.int .i64 0),.lit (.int .i64 0),.lit (.int .i64 0),.lit (.int .i64 0),.str [],.str [],.lit (.slice none 0 0),.lit (.slice none 0 0),.lit (.slice none 0 0),.lit (.slice none 0 0),.lit (.int .i64 0)]
def a8b(tn:S)(s1 s2 s3 s4:Option Addr × Nat × Nat):Nat->Value
 |0=>.string ⟨tn.toArray⟩
 |1=>.slice s1.1 s1.2.1 s1.2.2
 |2=>.slice s2.1 s2.2.1 s2.2.2
 |3=>.slice s3.1 s3.2.1 s3.2.2
 |4=>.slice s4.1 s4.2.1 s4.2.2
 |_=>.int .i64 0
theorem a2j(tn:S)(s1 s2 s3 s4:Option Addr × Nat × Nat)(i:Nat):(a8b tn s1 s2 s3 s4 i).cells=#[a8b tn s1 s2 s3 s4 i]/\(a8b tn s1 s2 s3 s4 i).oneCell'=true:=by
 unfold a8b
 split<;>exact⟨rfl,rfl⟩
theorem c0X:isA (stR) (Ax.a0y Tryz.prog Ax.a0Y (Ax.a0E Tryz.prog) 60 (.fn 45) [.agg stR] .leaf 0)=true:=by kernel_rfl
theorem b8r:isA (stR) (Ax.a0y Tryz.prog Ax.a0Y (Ax.a0E Tryz.prog) 60 (.fn 218) [.agg stR] .leaf 0)=true:=by kernel_rfl
theorem b2J:isO (.lit (.bool true)) (Ax.a0y Tryz.prog Ax.a0Y (Ax.a0E Tryz.prog) 60 (.fn 46) [.agg stR] .leaf 0)=true:=by kernel_rfl
theorem b7W:isO (.str []) (Ax.a0y Tryz.prog Ax.a0Y (Ax.a0E Tryz.prog) 60 (.fn 49) [.agg stR] .leaf 0)=true:=by kernel_rfl
theorem c0E:isO (.lit (.bool true)) (Ax.a0y Tryz.prog Ax.a0Y (Ax.a0E Tryz.prog) 60 (.fn 219) [.agg stR] .leaf 0)=true:=by kernel_rfl
theorem b9M:isO (.lit (.bool false)) (Ax.a0y Tryz.prog Ax.a0Y (Ax.a0E Tryz.prog) 60 (.fn 100) [.agg zqR] .leaf 0)=true:=by kernel_rfl
theorem b7Y:isO (.lit (.bool false)) (Ax.a0y Tryz.prog Ax.a0Y (Ax.a0E Tryz.prog) 60 (.fn 215) [.agg zqR] .leaf 0)=true:=by kernel_rfl
theorem b7g:isO (.lit (.int .i64 1)) (Ax.a0y Tryz.prog Ax.a0Y (Ax.a0E Tryz.prog) 60 (.fn 214) [.agg zqR] .leaf 0)=true:=by kernel_rfl
end Go.Proofs.YtlimlmjljjmcpaaGreatDoor.Px
namespace Go.Proofs.YtlimlmjljjmcpaaGreatDoor.Px
open Go Go.RowKit Go.Proofs.YtlimlmjljjmcpaaGreatDoor.Ps
set_option linter.unusedVariables false
set_option linter.unusedSimpArgs false
def dpB(x:X):Bool:=decide (24<dep x)
def dps(l:List X):Bool:=l.any dpB
def X0:X:=.mk 0 0 0 0 [] [] []
theorem b6q(w:World):XR w X0 [.int .i64 0,.int .i64 0,.int .i64 0,.int .i64 0,.string ⟨#[]⟩,.string ⟨#[]⟩,.slice none 0 0]:=b2p w 0 0 0 0 [] [] (Nat.zero_le _) (Nat.zero_le _)
theorem b2F{l:List X}{k:Nat}(h:k<l.length):dps (l.take (k+1))=(dps (l.take k) || dpB l[k]):=by
 unfold dps
 rw[List.take_succ_eq_append_getElem h,List.any_append]
 simp
theorem c2d{w:World}{b:Nat}{cs:List Value}{x:X}(hb:Blk w b cs 26)(hx:XR w x cs):XL w [x] (.slice (some ⟨b,0,none⟩) 1 1):=by
 obtain⟨op,int,vk,vi,vs,nm,l⟩:=x
 obtain⟨a,m,rfl,_⟩:=hx.lits
 have hz:Tryz.prog.cellsOf 26=7:=a0H
 unfold XL
 rw[a0l]
 refine Rp.slice (fun _=>[.int .i64 op,.int .i64 int,.int .i64 vk,.int .i64 vi,.string ⟨vs.toArray⟩,.string ⟨nm.toArray⟩,.slice a l.length m]) Tryz.underlying24 (Nat.le_refl _) (by unfold maxLen;omega) rfl (by rw[show Tryz.prog.bytesOf 26=88 by kernel_rfl];unfold reachBytes;omega) (fun i hi=>?_) (fun i hi=>?_)
 ·obtain rfl:i=0:=by omega
  rw[hz]
  refine World.cells?_of_each (Nat.zero_le _) rfl fun j hj=>?_
  rw[Nat.zero_mul,Addr.add_lit,Addr.add_lit]
  simp only[Nat.zero_add]
  rcases j with _|_|_|_|_|_|_|j
  ·exact hb.cell 0 rfl
  ·exact hb.cell 1 rfl
  ·exact hb.cell 2 rfl
  ·exact hb.cell 3 rfl
  ·exact hb.cell 4 rfl
  ·exact hb.cell 5 rfl
  ·exact hb.cell 6 rfl
  ·omega
 ·obtain rfl:i=0:=by simpa using hi
  exact hx
theorem a5A(l:List X)(a:Option Addr)(c:Nat)(w:World)(hl:l.length<=1000000)(hn:∀x∈l,nodes x<=1152921504606846976)(hv:XL w l (.slice a l.length c)):Calls Tryz.prog 216 #[.slice a l.length c] w (Ret w (.bool (dps l))):=by
 have HL:=h_ hv
 have HN:=h_ hn
 clear hv hn
 go_enter Tryz.func216,Tryz.ntmps216
 go_wp2_with fail
 go_loopw [3] (fun i wr=>∃k:Nat,k<=l.length/\Hid (dps (l.take k)=false)/\i=.int .i64 (k:Int)/\Below w.heap.size w wr) (fun i _=>l.length - (intOf i).toNat)
 case atStart=>exact⟨0,Nat.zero_le _,h_ rfl,rfl,Below.refl _ _⟩
 case round=>
  obtain⟨k,hk,HQ,rfl,hb⟩:=hrel
  have HB:=h_ hb
  clear hb
  by_cases hlt:k<l.length
  ·have k1:(k:Int)<(l.length:Int):=by omega
   have k0:(0:Int)<=(k:Int):=by omega
   obtain⟨g,o,us,eq,hec,hkx,hrx⟩:=HL.out.ec hlt
   subst eq
   have HT:Hid (dps (l.take (k+1))=dpB l[k]):=h_ (by rw[b2F hkx,HQ.out];rfl)
   have HY:Hid (dpB l[k]=true->dps l=true):=h_ fun h=>by
    unfold dps
    exact List.any_eq_true.2 ⟨_,List.getElem_mem hkx,h⟩
   have HD:=h_ fun(w':World) (hw':Below wr.heap.size wr w')=>b3k l[k] us w' (HN.out _ (List.getElem_mem hkx)) (hrx.kept (HB.out.trans (hw'.mono HB.out.size)) (Nat.le_refl _))
   have hdp:dpB l[k]=decide (24<dep l[k]):=rfl
   generalize dpB l[k]=q at HT HY hdp
   generalize dep l[k]=d at HD hdp
   generalize l[k]=xk at hrx HD
   obtain⟨eop,eint,evk,evi,evs,enm,el⟩:=xk
   obtain⟨ea,em,rfl,_⟩:=hrx.lits
   obtain⟨c0,c1,c2,c3,c4,c5,c6⟩:=hec.c7 HB.out
   have lg:g<wr.heap.size:=Nat.lt_of_lt_of_le hec.1 HB.out.size
   clear hec hrx HQ
   have HDP:=h_ hdp
   clear hdp
   go_wp2_with fail
   refine(HD.out wr (Below.refl _ _)).mono ?_
   rintro e w4 ⟨rfl,hw4⟩
   have HB4:=t_ HB hw4
   clear hw4 c0 c1 c2 c3 c4 c5 c6 HD
   by_cases hd:24<d
   ·have HF:=h_ (HY.out (by rw[HDP.out];exact decide_eq_true hd))
    have g1:decide ((24:Int)<((min d 25:Nat):Int))=true:=decide_eq_true (by omega)
    have g2:(24:Int)<((min d 25:Nat):Int):=by omega
    clear hd
    go_wp2_with fail
    go_ret
    exact⟨by rw[HF.out];rfl,HB4.out⟩
   ·have HF:Hid (dps (l.take (k+1))=false):=h_ (by rw[HT.out,HDP.out];exact decide_eq_false hd)
    have g1:decide ((24:Int)<((min d 25:Nat):Int))=false:=decide_eq_false (by omega)
    have g2:¬(24:Int)<((min d 25:Nat):Int):=by omega
    clear hd
    go_wp2_with fail
    go_roundw
    case rel=>exact⟨k+1,by omega,HF,by go_num,HB4.out⟩
    case measure=>simp[intOf];omega
  ·obtain rfl:k=l.length:=by omega
   have d1:decide ((l.length:Int)<(l.length:Int))=false:=decide_eq_false (by omega)
   have HF:Hid (dps l=false):=h_ (by have:=HQ.out;rw[List.take_length] at this;exact this)
   clear HQ
   go_wp2_with fail
   go_ret
   exact⟨by rw[HF.out];rfl,HB.out⟩
theorem a8F(x:X)(cs:List Value)(b:Nat)(q:Bool)(w:World)(hn:nodes x<=1152921504606846976)(h:XR w x cs)(hb:Blk w b [.bool q] 4):Calls Tryz.prog 101 #[.agg cs.toArray,.pointer (some ⟨b,0,none⟩)] w (fun e w'=>e=.returned (.tuple #[])/\Blk w' b [.bool (q || dpB x)] 4/\Below b w w'):=by
 have HD:=h_ fun(w':World) (hw':Below w.heap.size w w')=>a8z x cs w' hn (h.kept hw' (Nat.le_refl _))
 have HDP:Hid (dpB x=decide (24<dep x)):=h_ rfl
 generalize dpB x=r at HDP |-
 generalize dep x=d at HD HDP
 have HBB:=h_ hb
 have lb:=hb.lt
 obtain⟨eop,eint,evk,evi,evs,enm,el⟩:=x
 obtain⟨ea,em,rfl,_⟩:=h.lits
 clear h hb
 go_enter Tryz.func101,Tryz.ntmps101
 go_upto_region 1 with(fail)
 refine nA fun w1 hB hw1 hz1=>?_
 have HW:=h_ hw1
 have HB1:=h_ (HBB.out.below hw1)
 have b0:=HB1.out.cell 0 rfl
 have bf:=HB1.out.free 0
 obtain⟨c0,c1,c2,c3,c4,c5,c6⟩:=hB.c7
 have lv:=hB.lt
 clear hB hw1 hz1
 cases q with
 |true=>
  go_wp2_with fail
  go_end0
  exact⟨rfl,by simpa using HB1.out.set 0 (.bool true),((HW.out.mono (Nat.le_of_lt lb)).setCell (Nat.le_refl _) _)⟩
 |false=>
  go_wp2_with fail
  refine(HD.out w1 HW.out).mono ?_
  rintro e w4 ⟨rfl,hw4⟩
  have HW4:=t_ HW hw4
  have HB4:=h_ (HB1.out.below hw4)
  have x0:=HB4.out.cell 0 rfl
  have xf:=HB4.out.free 0
  clear hw4 c0 c1 c2 c3 c4 c5 c6 HD b0 bf lv
  by_cases hd:24<d
  ·have HF:Hid (r=true):=h_ (by rw[HDP.out];exact decide_eq_true hd)
   have g1:decide ((24:Int)<((min d 25:Nat):Int))=true:=decide_eq_true (by omega)
   have g2:(24:Int)<((min d 25:Nat):Int):=by omega
   clear hd
   go_wp2_with fail
   go_end0
   exact⟨rfl,by rw[HF.out];simpa using HB4.out.set 0 (.bool true),((HW4.out.mono (Nat.le_of_lt lb)).setCell (Nat.le_refl _) _)⟩
  ·have HF:Hid (r=false):=h_ (by rw[HDP.out];exact decide_eq_false hd)
   have g1:decide ((24:Int)<((min d 25:Nat):Int))=false:=decide_eq_false (by omega)
   have g2:¬(24:Int)<((min d 25:Nat):Int):=by omega
   clear hd
   go_wp2_with fail
   go_end0
   exact⟨rfl,by rw[HF.out];simpa using HB4.out.set 0 (.bool false),((HW4.out.mono (Nat.le_of_lt lb)).setCell (Nat.le_refl _) _)⟩
end Go.Proofs.YtlimlmjljjmcpaaGreatDoor.Px
namespace Go.Proofs.YtlimlmjljjmcpaaGreatDoor.Ps
open Go Go.RowKit
set_option linter.unusedVariables false
set_option linter.unusedSimpArgs false
theorem a8r:Tryz.prog.bytesOf 26=88:=by kernel_rfl
def a8M(F:FuncId)(t:TypeId)(N:Nat):Prop:=∀(x y:C) (cs ds:List Value) (w:World),SizeOf.sizeOf x<=N->Rp Tryz.prog w t cs x->Rp Tryz.prog w t ds y ->
 Calls Tryz.prog F #[.agg cs.toArray,.agg ds.toArray] w (g_ w x y)
structure LoopR(w:World)(n k:Nat)(xs ys:List C)(c:Value)(wr:World):Prop where
 le:k<=n
 c:c=.int .i64 (k:Int)
 same:upTo xs ys k
 bel:Below w.heap.size w wr
theorem a9M(N:Nat)(HI0:a8M 32 26 N)(xs ys:List C)(hN:∀x∈xs,SizeOf.sizeOf x<=N)(a b:Option Addr)(n m n' m':Nat)(w:World)(h1:Rp Tryz.prog w 24 [.slice a n m] (.s xs))(h2:Rp Tryz.prog w 24 [.slice b n' m'] (.s ys)) :
  Calls Tryz.prog 39 #[.slice a n m,.slice b n' m',.func (.func 32) #[] #[]] w (g_ w (.s xs) (.s ys)):=by
 obtain⟨l1,n1⟩:=H_ Tryz.underlying24 a8r (by decide) h1
 obtain⟨l2,n2⟩:=H_ Tryz.underlying24 a8r (by decide) h2
 have H1:=Lib.hid h1
 have H2:=Lib.hid h2
 have HI:=Lib.hid HI0
 have HN:=Lib.hid hN
 have L1:=Lib.hid l1
 have L2:=Lib.hid l2
 clear h1 h2 HI0 hN l1 l2
 by_cases hlen:n=n'
 ·subst hlen
  go_enter Tryz.func39,Tryz.ntmps39
  go_wp2_with fail
  go_loopw [17] (fun c wr=>∃k,LoopR w n k xs ys c wr) (fun c _=>n - (intOf c).toNat)
  case atStart=>exact⟨0,⟨Nat.zero_le _,rfl,a1l _ _,Below.refl _ _⟩⟩
  case round=>
   obtain⟨k,⟨hk,rfl,hs,hb⟩⟩:=hrel
   have HS:=Lib.hid hs
   clear hs
   by_cases hlt:k<n
   ·obtain⟨g,o,us,eq,hgl,hul,hcell,hkx,hrx⟩:=a0i Tryz.underlying24 a0H (by omega) H1.out hlt
    obtain⟨g',o',vs,eq',hgl',hul',hcell',hkx',hrx'⟩:=a0i Tryz.underlying24 a0H (by omega) H2.out hlt
    subst eq eq'
    have HX:=Lib.hid hrx
    have HY:=Lib.hid hrx'
    obtain⟨u0,u1,u2,u3,u4,u5,U,u6,u7,_,rfl,_⟩:=a0Q hrx
    obtain⟨v0,v1,v2,v3,v4,v5,V,v6,v7,_,rfl,_⟩:=a0Q hrx'
    have rr:∀j (u:Value),([.int .i64 u0,.int .i64 u1,.int .i64 u2,.int .i64 u3,.string u4,.string u5,.slice U u6 u7]:List Value)[j]? = some u->wr.cell? ⟨g,o+k*7+j,none⟩=some u:=fun j u hu=>(hb.cell (by exact hgl)).trans (hcell j u hu)
    have ss:∀j (u:Value),([.int .i64 v0,.int .i64 v1,.int .i64 v2,.int .i64 v3,.string v4,.string v5,.slice V v6 v7]:List Value)[j]? = some u->wr.cell? ⟨g',o'+k*7+j,none⟩=some u:=fun j u hu=>(hb.cell (by exact hgl')).trans (hcell' j u hu)
    have r0:=rr 0 _ rfl
    have r1:=rr 1 _ rfl
    have r2:=rr 2 _ rfl
    have r3:=rr 3 _ rfl
    have r4:=rr 4 _ rfl
    have r5:=rr 5 _ rfl
    have r6:=rr 6 _ rfl
    have s0:=ss 0 _ rfl
    have s1:=ss 1 _ rfl
    have s2:=ss 2 _ rfl
    have s3:=ss 3 _ rfl
    have s4:=ss 4 _ rfl
    have s5:=ss 5 _ rfl
    have s6:=ss 6 _ rfl
    simp only[Nat.add_zero] at r0 s0
    have c2:(k:Int)<(n:Int):=by omega
    have c3:(0:Int)<=(k:Int):=by omega
    have d1:decide ((k:Int)<(n:Int))=true:=decide_eq_true c2
    have gl:g<wr.heap.size:=by have:=hb.size;omega
    have gl':g'<wr.heap.size:=by have:=hb.size;omega
    have HB:=Lib.hid hb
    clear rr ss hcell hcell' hul hul' hrx hrx' hb
    go_wp2_with fail
    refine(HI.out xs[k] ys[k] _ _ _ (HN.out _ (List.getElem_mem _)) (HX.out.kept (HB.out.trans (((d_ wr _).trans (a4N _ _)).mono HB.out.size)) (Nat.le_refl _)) (HY.out.kept (HB.out.trans (((d_ wr _).trans (a4N _ _)).mono HB.out.size)) (Nat.le_refl _))).mono ?_
    rintro e' w4 ⟨rfl,hw4⟩
    have HB4:=Lib.hid ((HB.out.trans (((d_ wr _).trans (a4N _ _)).mono HB.out.size)).trans (hw4.mono (by have:=HB.out.size;simp;omega)))
    clear hw4 HX HY HB r0 r1 r2 r3 r4 r5 r6 s0 s1 s2 s3 s4 s5 s6
    cases hq:eqC xs[k] ys[k] with
    |true=>
     go_wp2_with fail
     go_roundw
     case rel=>exact⟨k+1,⟨by omega,by go_num,a1g HS.out _ _ hq,HB4.out⟩⟩
     case measure=>simp[intOf];omega
    |false=>
     go_wp2_with fail
     go_ret
     exact g_.no (fun e=>by injection e with e;rw[<-Z_,a1I hkx hkx' hq] at e;cases e) HB4.out
   ·obtain rfl:k=n:=by omega
    have d1:decide ((k:Int)<(k:Int))=false:=decide_eq_false (by omega)
    have HB:=Lib.hid hb
    clear hb
    go_wp2_with fail
    go_ret
    exact g_.yes (by rw[Z_.1 (a1G HS.out L1.out L2.out)]) HB.out
 ·have d0:decide ((n:Int)=(n':Int))=false:=decide_eq_false (by omega)
  go_enter Tryz.func39,Tryz.ntmps39
  go_wp2_with fail
  go_ret
  exact g_.no (fun e=>by injection e with e;exact hlen (L1.out.symm.trans ((congrArg List.length e).trans L2.out))) (Below.refl _ _)
theorem a7b:∀N,a8M 32 26 N
 |0=>fun x y cs ds w hN=>by cases x<;>simp at hN
 |N+1=>fun x y cs ds w hN h1 h2=>by
  have HI:=Lib.hid (a7b N)
  obtain⟨a0,a1,a2,a3,a4,a5,A,n,m,xs,rfl,rfl,_,_,_,hr⟩:=a0Q h1
  obtain⟨b0,b1,b2,b3,b4,b5,B,n',m',ys,rfl,rfl,_,_,_,hr'⟩:=a0Q h2
  have HX:=Lib.hid hr
  have HY:=Lib.hid hr'
  have HN:Hid (∀x∈xs,SizeOf.sizeOf x<=N):=Lib.hid (fun x hx=>by
   have:=List.sizeOf_lt_of_mem hx
   simp at hN
   omega)
  clear h1 h2 hr hr' hN
  go_enter Tryz.func32,Tryz.ntmps32
  go_upto_region 1 with(fail)
  refine a1B (K:=Code.wp _ _ _ _) fun w1 hB hX hw1 hz1=>?_
  have p0:=hB.cell 0 rfl
  have p1:=hB.cell 1 rfl
  have p2:=hB.cell 2 rfl
  have p3:=hB.cell 3 rfl
  have p4:=hB.cell 4 rfl
  have p5:=hB.cell 5 rfl
  have p6:=hB.cell 6 rfl
  have q0:=hX.cell 0 rfl
  have q1:=hX.cell 1 rfl
  have q2:=hX.cell 2 rfl
  have q3:=hX.cell 3 rfl
  have q4:=hX.cell 4 rfl
  have q5:=hX.cell 5 rfl
  have q6:=hX.cell 6 rfl
  have HW:=Lib.hid hw1
  clear hB hX hw1
  go_wp2_with fail
  case' isTrue=>
   refine(a9M N HI.out xs ys HN.out _ _ _ _ _ _ w1 (HX.out.kept HW.out (Nat.le_refl _)) (HY.out.kept HW.out (Nat.le_refl _))).mono ?_
   rintro e' w4 ⟨rfl,hw4⟩
   have HW4:=Lib.hid (HW.out.trans (hw4.mono HW.out.size))
   have e1:=toList_inj ‹a4.toList=b4.toList›
   have e2:=toList_inj ‹a5.toList=b5.toList›
   cases hq:eqC (C.s xs) (C.s ys)
   case' true=>have e3:=z_.1 hq
   case' false=>have e3:=w_.1 hq
  all_goals
   (try go_wp2_with fail)
   go_ret
   first
   |exact g_.no (by intro e;simp at e;simp_all) HW.out
   |exact g_.no (by intro e;simp at e;simp_all) HW4.out
   |exact g_.yes (by simp_all) HW4.out
end Go.Proofs.YtlimlmjljjmcpaaGreatDoor.Ps
namespace Go.Proofs.YtlimlmjljjmcpaaGreatDoor.Px
open Go Go.RowKit Go.Proofs.YtlimlmjljjmcpaaGreatDoor.Ps
set_option linter.unusedVariables false
set_option linter.unusedSimpArgs false
theorem c1I(ts:List (TypeId × Nat × Nat))(n:Nat)(h:(List.range n).all (fun j=>ts.any fun p=>decide (p.2.1<=j)&&decide (j<p.2.1+p.2.2))=true):∀j,j<n -> ∃i,∃h:i<ts.length,ts[i].2.1<=j/\j<ts[i].2.1+ts[i].2.2:=by
 intro j hj
 obtain⟨p,hp,hq⟩:=List.any_eq_true.1 (List.all_eq_true.1 h j (List.mem_range.2 hj))
 obtain⟨i,hi,rfl⟩:=List.mem_iff_getElem.1 hp
 simp only[Bool.and_eq_true,decide_eq_true_eq] at hq
 exact⟨i,hi,hq⟩
def b9G:List (TypeId × Nat × Nat):=[(9,0,1),(49,1,1),(50,2,1),(51,3,1),(24,4,1)]
theorem b6r{L:List Col}{K:List Int}{Fs:List Fkey}{Xs:List X}{tn:S}{a a2 a3 ax:Option Addr}{m m2 m3 mx:Nat}{w:World}(hn:tn.length<=maxLen)(h1:CL w L (.slice a L.length m))(h2:IL w K (.slice a2 K.length m2))(h3:FL w Fs (.slice a3 Fs.length m3)):∃x,Rp Tryz.prog w 53 (tbC tn a L.length m a2 K.length m2 a3 Fs.length m3) x:=
 ⟨_,a4T (xs:=[_,_,_,_,_]) b9G Tryz.underlying53 a2I rfl (by kernel_rfl) (c1I _ _ (by decide)) ⟨Rp.string Tryz.underlying9 (by simpa[ByteArray.size] using hn),h1,h2,h3,Rp.nil Tryz.underlying24,trivial⟩⟩
def c1p:List (Int × ByteArray):=[(1,⟨#[73,78,84]⟩),(2,⟨#[84,69,88,84]⟩),(3,⟨#[66,79,79,76]⟩)]
theorem b7l(n:Int):a6d n c1p=.string ⟨(a2g n).toArray⟩:=by
 unfold a2g c1p a6d
 by_cases h1:n=1
 ·subst h1;rfl
 by_cases h2:n=2
 ·subst h2;rfl
 by_cases h3:n=3
 ·subst h3;rfl
 simp only[a5I,h1,h2,h3,if_false]
theorem b1k(n:Int)(w:World):Calls Tryz.prog 259 #[.int .i64 n] w (Ret w (.string ⟨(a2g n).toArray⟩)):=by
 have hmm:=@run_makeMap Tryz.prog
 have HL:=h_ (b7l n)
 go_enter Tryz.func259,Tryz.ntmps259
 have HS:=a9J w
 go_wp2_with (first|(refine T_ rfl (a6X rfl (.tmp 3) _ _ rfl rfl HS (by decide) ?_);clear HS;intro w2 HS)|(refine T_ rfl (b1w rfl (.tmp 4) (.tmp 5) n rfl rfl rfl HS _ HL.out ?_)))
 go_ret
 exact⟨rfl,HS.bel⟩
theorem b0m(c:Col)(w:World)(hE:Env w)(h:a1C c):Calls Tryz.prog 184 #[.agg #[.string ⟨c.nm.toArray⟩,.int .i64 c.kind,.bool c.nul]] w (Ret w (.bool true)):=by
 obtain⟨nm,kind,nul⟩:=c
 have HK:=h_ fun(w':World)=>b1k kind w'
 have HKE:=h_ (b2I h.2)
 have HI:Hid (∀w':World,Below w.heap.size w w'->Calls Tryz.prog 61 #[.string ⟨nm.toArray⟩] w' (Ret w' (.bool true))):=h_ fun w' hw'=>by
  have:=a0N (s:=nm) (hE.below hw')
  rw[show nameB nm=true from h.1] at this
  exact this
 generalize a2g kind=kl at HK HKE
 clear h hE
 dsimp only
 go_enter Tryz.func184,Tryz.ntmps184
 go_upto_region 1 with(fail)
 refine nA fun w1 hB hw1 hz1=>?_
 have HB:=h_ hB
 have HW:=h_ hw1
 have p0:=hB.cell 0 rfl
 clear hB hw1 hz1
 go_wp2_with fail
 refine(HI.out w1 HW.out).mono ?_
 rintro e w2 ⟨rfl,hw2⟩
 have HW2:=t_ HW hw2
 have p1:=(HB.out.below hw2).cell 1 rfl
 clear hw2 p0
 go_wp2_with fail
 refine(HK.out w2).mono ?_
 rintro e w3 ⟨rfl,hw3⟩
 have HW3:=t_ HW2 hw3
 have hke:=HKE.out
 clear hw3 p1
 go_wp2_with fail
 go_ret
 exact⟨by simp_all,HW3.out⟩
theorem a4x(n lo hi:Int)(w:World):Calls Tryz.prog 217 #[.int .i64 n,.int .i64 lo,.int .i64 hi] w (Ret w (.bool (decide (lo<=n)&&decide (n<=hi)))):=by
 by_cases h1:lo<=n/\n<=hi
 ·have HF:Hid ((decide (lo<=n)&&decide (n<=hi))=true):=h_ (by simp[h1.1,h1.2])
  generalize(decide (lo<=n)&&decide (n<=hi))=q at HF |-
  obtain⟨h2,h3⟩:=h1
  go_enter Tryz.func217,Tryz.ntmps217
  go_wp2_with fail
  go_ret
  exact⟨by rw[HF.out];rfl,Below.refl _ _⟩
 ·have HF:Hid ((decide (lo<=n)&&decide (n<=hi))=false):=h_ (by
   rw[Bool.and_eq_false_iff]
   by_cases h2:lo<=n
   ·exact .inr (decide_eq_false fun h3=>h1 ⟨h2,h3⟩)
   ·exact .inl (decide_eq_false h2))
  generalize(decide (lo<=n)&&decide (n<=hi))=q at HF |-
  go_enter Tryz.func217,Tryz.ntmps217
  by_cases h2:lo<=n
  ·have h3:¬n<=hi:=fun h3=>h1 ⟨h2,h3⟩
   clear h1
   go_wp2_with fail
   go_ret
   exact⟨by rw[HF.out];rfl,Below.refl _ _⟩
  ·clear h1
   go_wp2_with fail
   go_ret
   exact⟨by rw[HF.out];rfl,Below.refl _ _⟩
theorem a7c(c:Col)(w:World)(h:a1C c):Calls Tryz.prog 274 #[.agg #[.string ⟨c.nm.toArray⟩,.int .i64 c.kind,.bool c.nul]] w (Ret w (.bool true)):=by
 obtain⟨nm,kind,nul⟩:=c
 have HK:Hid (∀w':World,Calls Tryz.prog 217 #[.int .i64 kind,.int .i64 1,.int .i64 3] w' (Ret w' (.bool true))):=h_ fun w'=>by
  have h1:(1:Int)<=kind:=h.2.1
  have h2:kind<=(3:Int):=h.2.2
  have:=a4x kind 1 3 w'
  rw[decide_eq_true h1,decide_eq_true h2] at this
  exact this
 have HI:Hid (∀w':World,Calls Tryz.prog 130 #[.string ⟨nm.toArray⟩] w' (Ret w' (.bool true))):=h_ fun w'=>by
  have:=a1H nm w'
  rw[show nameB nm=true from h.1] at this
  exact this
 clear h
 dsimp only
 go_enter Tryz.func274,Tryz.ntmps274
 go_upto_region 1 with(fail)
 refine nA fun w1 hB hw1 hz1=>?_
 have HB:=h_ hB
 have HW:=h_ hw1
 have p0:=hB.cell 0 rfl
 clear hB hw1 hz1
 go_wp2_with fail
 refine(HI.out w1).mono ?_
 rintro e w2 ⟨rfl,hw2⟩
 have HW2:=t_ HW hw2
 have p1:=(HB.out.below hw2).cell 1 rfl
 clear hw2 p0
 go_wp2_with fail
 refine(HK.out w2).mono ?_
 rintro e w3 ⟨rfl,hw3⟩
 have HW3:=t_ HW2 hw3
 clear hw3 p1
 go_wp2_with fail
 go_ret
 exact⟨rfl,HW3.out⟩
end Go.Proofs.YtlimlmjljjmcpaaGreatDoor.Px
