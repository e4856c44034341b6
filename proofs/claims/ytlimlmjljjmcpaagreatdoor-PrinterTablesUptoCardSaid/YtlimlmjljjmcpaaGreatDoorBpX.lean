import Derived.Test.YtlimlmjljjmcpaaGreatDoorBdA
import Derived.Test.YtlimlmjljjmcpaaGreatDoorGrA
import Derived.Maps.GroupsBeside
import Derived.StringKeys
import Derived.Test.YtlimlmjljjmcpaaGreatDoorBtA
set_option maxHeartbeats 4000000
set_option maxRecDepth 100000
namespace Go.Proofs.YtlimlmjljjmcpaaGreatDoor.Px
open Go Go.RowKit Go.Proofs.YtlimlmjljjmcpaaGreatDoor.Ps
set_option linter.unusedVariables false
set_option linter.unusedSimpArgs false
theorem keyS:Go.Maps.Keyed Tryz.prog 9:=Go.Maps.Keyed.of_law (Go.WideMaps.string_law Tryz.underlying9)
def c1n(L:List Col):Nat->DataW Unit
 |0=>.map []
 |k+1=>(c1n L k).put (.string ((L.map (·.nm)).getD k [])) (.slice (Go.ChangeShapes.lits .i64 [(k:Int)]) [])
def Distinct(L:List Col):Prop:=∀i j (hi:i<L.length) (hj:j<L.length),L[i].nm=L[j].nm->i=j
abbrev Gps(w:World)(base b n:Nat)(D:DataW Unit):Prop:=w.ownsGroups Tryz.prog 9 base 3 .i64 b n D
theorem Gps.made{w:World}{base b:Nat}(h:w.heap[b]? = some (.map #[] 0))(hb:b<base):Gps w base b 0 (.map []):=
 ⟨#[],0,h,⟨by simp,Go.MapKept.stamped_empty 0,by simp⟩,Nat.le_refl _,rfl,hb,by simp,by simp⟩
theorem grown_below{w w':World}(h:Below w.heap.size w w')(row:Option Nat):w.grownBy w' row:=⟨h.os,h.tape,h.output,h.size,fun i hi _=>h.block i hi⟩
theorem Gps.below{w w':World}{base b n:Nat}{D:DataW Unit}(h:Gps w base b n D)(hb:Below w.heap.size w w'):Gps w' base b n D:=
 h.kept (grown_below hb none) (by simp) (fun _ _ _ x _=>by cases x.val.ownBlock<;>simp)
theorem Shuns.below{w w':World}{b:Nat}{No:Nat->Prop}{base n:Nat}{D:DataW Unit}(h:w.Shuns b No)(hg:Gps w base b n D)(hb:Below w.heap.size w w'):w'.Shuns b No:=
 h.kept (grown_below hb none) (by obtain⟨es,clock,hb,_⟩:=hg;exact(Array.getElem?_eq_some_iff.1 hb).1) (by simp)
def c0z(tn tn2:S)(a1 a2 a3 a4:Option Addr)(n1 m1 n2 m2 n3 m3 n4 m4:Nat):List Value:=[.string ⟨tn.toArray⟩,.string ⟨tn2.toArray⟩,.slice a1 n1 m1,.slice a2 n2 m2,.slice a3 n3 m3,.slice a4 n4 m4,.int .i64 0,.int .i64 (-1)]
def ScP(w:World)(L:List Col)(tn:S)(a a2 a3 a4:Option Addr)(m n2 m2 n3 m3 n4 m4 gs:Nat):Prop:=
 ∃gp c v B b,EC w gs 0 [.int .i64 0,.slice (some ⟨gp,0,none⟩) 1 c,v,.map (some b)]/\EC w gp 0 (c0z tn tn a a2 a3 a4 L.length m n2 m2 n3 m3 n4 m4)/\a0v B v (y_ L) w/\Gps w B b L.length (c1n L L.length)
theorem ScP.below{w w':World}{L:List Col}{tn:S}{a a2 a3 a4:Option Addr}{m n2 m2 n3 m3 n4 m4 gs:Nat}(h:ScP w L tn a a2 a3 a4 m n2 m2 n3 m3 n4 m4 gs)(hb:Below w.heap.size w w'):ScP w' L tn a a2 a3 a4 m n2 m2 n3 m3 n4 m4 gs:=by
 obtain⟨gp,c,v,B,b,h1,h2,h3,h4⟩:=h
 exact⟨gp,c,v,B,b,⟨Nat.lt_of_lt_of_le h1.1 hb.size,fun j u hj=>h1.at_ hb hj⟩,⟨Nat.lt_of_lt_of_le h2.1 hb.size,fun j u hj=>h2.at_ hb hj⟩,h3.below hb,h4.below hb⟩
theorem a9q{s:S}:∀ {l:List S} {i k:Nat},a2o s l i=some k -> ∃j,k=i+j /\ ∃h:j<l.length,l[j]=s
 |[],_,_,h=>by cases h
 |a::l,i,k,h=>by
  unfold a2o at h
  split at h
  ·rename_i e
   cases h
   exact⟨0,rfl,by simp,e⟩
  ·obtain⟨j,h1,h2,h3⟩:=a9q h
   exact⟨j+1,by omega,by simpa using h2,by simpa using h3⟩
theorem a9o{s:S}:∀ {l:List S} {i:Nat},a2o s l i=none -> ∀a∈l,a ≠ s
 |[],_,_,a,ha=>by cases ha
 |b::l,i,h,a,ha=>by
  unfold a2o at h
  split at h
  ·cases h
  ·rename_i e
   rcases List.mem_cons.1 ha with rfl|ha
   ·exact e
   ·exact a9o h a ha
theorem a7T(L:List Col)(s:S):(a1A L s = -1 /\ ∀i (hi:i<L.length),L[i].nm ≠ s) \/ ∃i,∃hi:i<L.length,a1A L s=(i:Int)/\L[i].nm=s:=by
 unfold a1A
 cases h:a2o s (L.map (·.nm)) 0 with
 |none=>exact .inl ⟨rfl,fun i hi e=>a9o h _ (List.mem_map.2 ⟨L[i],List.getElem_mem hi,rfl⟩) e⟩
 |some k=>
  obtain⟨j,h1,h2,h3⟩:=a9q h
  rw[List.length_map] at h2
  rw[List.getElem_map] at h3
  exact .inr ⟨j,h2,by show(k:Int)=_;rw[h1];simp,h3⟩
def exB(i:Int)(n:Nat):Bool:=decide (0<=i)&&decide (i<(n:Int))
theorem a3f(L:List Col)(tn:S)(a a2 a3 a4:Option Addr)(m n2 m2 n3 m3 n4 m4:Nat)(i:Int)(w:World):Calls Tryz.prog 210 #[.agg #[.string ⟨tn.toArray⟩,.slice a L.length m,.slice a2 n2 m2,.slice a3 n3 m3,.slice a4 n4 m4],.int .i64 i] w (Ret w (.bool (exB i L.length))):=by
 by_cases h0:0<=i
 ·by_cases h1:i<(L.length:Int)
  ·have HF:Hid (exB i L.length=true):=h_ (by unfold exB;simp[h0,h1])
   go_enter Tryz.func210,Tryz.ntmps210
   go_upto_region 1 with(fail)
   refine nA fun w1 hB hw1 hz1=>?_
   have HW:=h_ hw1
   have p1:=hB.cell 1 rfl
   clear hB hw1 hz1
   go_wp2_with fail
   go_ret
   exact⟨by rw[HF.out];rfl,HW.out⟩
  ·have HF:Hid (exB i L.length=false):=h_ (by unfold exB;simp[h1])
   go_enter Tryz.func210,Tryz.ntmps210
   go_upto_region 1 with(fail)
   refine nA fun w1 hB hw1 hz1=>?_
   have HW:=h_ hw1
   have p1:=hB.cell 1 rfl
   clear hB hw1 hz1
   go_wp2_with fail
   go_ret
   exact⟨by rw[HF.out];rfl,HW.out⟩
 ·have HF:Hid (exB i L.length=false):=h_ (by unfold exB;simp[h0])
  go_enter Tryz.func210,Tryz.ntmps210
  go_upto_region 1 with(fail)
  refine nA fun w1 hB hw1 hz1=>?_
  have HW:=h_ hw1
  have p1:=hB.cell 1 rfl
  clear hB hw1 hz1
  go_wp2_with fail
  go_ret
  exact⟨by rw[HF.out];rfl,HW.out⟩
theorem b3z{L:List Col}(h:∀i (hi:i<L.length),(i:Int)<=a1A L L[i].nm):Distinct L:=by
 have key:∀i j (hi:i<L.length) (hj:j<L.length),L[i].nm=L[j].nm -> ¬i<j:=fun i j hi hj e hlt=>by
  have h1:=h j hj
  rcases a7T L L[j].nm with⟨_,h2⟩|⟨k,hk,h2,h3⟩
  ·exact h2 j hj rfl
  ·rw[h2] at h1
   have h4:k<=i:=by
    have:∀(l:List S) (s:S) (b k:Nat),a2o s l b=some k -> ∀i (hi:i<l.length),l[i]=s->k<=b+i:=by
     intro l
     induction l with
     |nil=>intro s b k h;cases h
     |cons x l ih=>
      intro s b k h i hi e
      unfold a2o at h
      split at h
      ·cases h;omega
      ·rename_i hne
       cases i with
       |zero=>exact absurd e hne
       |succ i=>have:=ih s (b+1) k h i (by simpa using hi) (by simpa using e);omega
    have hf:a2o L[j].nm (L.map (·.nm)) 0=some k:=by
     unfold a1A at h2
     cases hh:a2o L[j].nm (L.map (·.nm)) 0 with
     |none=>rw[hh] at h2;simp only at h2;omega
     |some k2=>rw[hh] at h2;simp only at h2;congr 1;omega
    have:=this _ _ _ _ hf i (by simpa using hi) (by simpa using e)
    omega
   omega
 intro i j hi hj e
 have h1:=key i j hi hj e
 have h2:=key j i hj hi e.symm
 omega
def a1C(c:Col):Prop:=nameB c.nm=true/\1<=c.kind/\c.kind<=3
def a0f(L:List Col):Prop:=(1<=L.length/\L.length<=12)/\(∀c∈L,a1C c)/\Distinct L
def a8C(L:List Col)(i:Int):Bool:=match L[i.toNat]? with|some c=>c.nul|none=>false
def keyAt(L:List Col)(K:List Int)(j:Nat)(h:j<K.length):Prop:=exB K[j] L.length=true/\(∀h0:0<j,K[j - 1]<K[j])/\a8C L K[j]=false
def a2F(L:List Col)(K:List Int):Prop:=K.length ≠ 0 /\ ∀j (h:j<K.length),keyAt L K j h
def a2R(n:Nat)(F:List Int)(j:Nat)(h:j<F.length):Prop:=exB F[j] n=true /\ ∀q (hq:q<j),F[q] ≠ F[j]
def a2h(n:Nat)(F:List Int)(tb:S):Prop:=nameB tb=true/\F.length ≠ 0 /\ ∀j (h:j<F.length),a2R n F j h
def a0T(n:Nat)(Fs:List Fkey):Prop:=Fs.length<=4 /\ ∀f∈Fs,a2h n f.cols f.tb
def a3p(ks:List Int)(x:X):Prop:=(chk ks x).2=0/\((chk ks x).1=3\/(chk ks x).1=0)
def a3d(ks:List Int)(Cs:List X):Prop:=Cs.length<=4 /\ ∀x∈Cs,a3p ks x
def a1D(t:Tbl):Prop:=nameB t.nm=true/\a0f t.cols/\a2F t.cols t.key/\a0T t.cols.length t.fors/\a3d (y_ t.cols) t.checks
def a1J(w:World)(P:Prop)(e:Ending)(w':World):Prop:=∃q:Int,e=.returned (.int .i64 q)/\(q=0↔P)/\Below w.heap.size w w'
theorem no_{q:Int}{P:Prop}(h:q ≠ 0)(h2:¬P):q=0↔P:=⟨fun e=>absurd e h,fun p=>absurd p h2⟩
theorem b1u{P:Prop}(h:P):(0:Int)=0↔P:=⟨fun _=>h,fun _=>rfl⟩
theorem a3c{L:List Col}(hd:Distinct L){k:Nat}(hk:k<L.length):a1A L L[k].nm=(k:Int):=by
 rcases a7T L L[k].nm with⟨_,h2⟩|⟨i,hi,h2,h3⟩
 ·exact absurd rfl (h2 k hk)
 ·rw[h2,hd i k hi hk h3]
theorem b4j{L:List Col}{i:Int}(h:i.toNat<L.length):a8C L i=L[i.toNat].nul:=by unfold a8C;rw[List.getElem?_eq_getElem h]
end Go.Proofs.YtlimlmjljjmcpaaGreatDoor.Px
