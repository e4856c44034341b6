import Derived.Test.YtlimlmjljjmcpaaGreatDoorBtA
import Derived.Test.YtlimlmjljjmcpaaGreatDoorPxB
import Derived.Test.YtlimlmjljjmcpaaGreatDoorPxC
set_option maxHeartbeats 8000000
set_option maxRecDepth 100000
namespace Go.Proofs.YtlimlmjljjmcpaaGreatDoor.Px
open Go Go.RowKit Go.Proofs.YtlimlmjljjmcpaaGreatDoor.Ps
set_option linter.unusedVariables false
set_option linter.unusedSimpArgs false
def XF(lo hi:Nat)(w:World)(x:X)(cs:List Value):Prop:=∀w':World,(∀b,lo<=b->b<hi->w'.heap[b]? = w.heap[b]?)->XR w' x cs
theorem XF.now{lo hi:Nat}{w:World}{x:X}{cs:List Value}(h:XF lo hi w x cs):XR w x cs:=h w fun _ _ _=>rfl
theorem XF.same{lo hi lo' hi':Nat}{w w':World}{x:X}{cs:List Value}(h:XF lo hi w x cs)(hb:∀b,lo<=b->b<hi->w'.heap[b]? = w.heap[b]?)(h1:lo'<=lo)(h2:hi<=hi'):XF lo' hi' w' x cs:=fun w2 h3=>h w2 fun b h4 h5=>(h3 b (by omega) (by omega)).trans (hb b h4 h5)
theorem XF.below{lo hi n:Nat}{w w':World}{x:X}{cs:List Value}(h:XF lo hi w x cs)(hb:Below n w w')(hn:hi<=n):XF lo hi w' x cs:=h.same (fun b _ h2=>hb.block b (by omega)) (Nat.le_refl _) (Nat.le_refl _)
def Parts(w:World)(cs:List Value):List (TypeId × Nat × Nat)->List C->Prop
 |[],[]=>True
 |p::ts,x::xs=>Rp Tryz.prog w p.1 ((cs.drop p.2.1).take p.2.2) x/\Parts w cs ts xs
 |_,_=>False
theorem Parts.at{w:World}{cs:List Value}:∀ {ts:List (TypeId × Nat × Nat)} {xs:List C},Parts w cs ts xs->xs.length=ts.length /\ ∀i (h1:i<ts.length) (h2:i<xs.length),Rp Tryz.prog w ts[i].1 ((cs.drop ts[i].2.1).take ts[i].2.2) xs[i]
 |[],[],_=>⟨rfl,fun i h1=>absurd h1 (by simp)⟩
 |p::ts,x::xs,h=>by
  obtain⟨h1,h2⟩:=h
  obtain⟨h3,h4⟩:=Parts.at h2
  refine⟨by simp[h3],fun i k1 k2=>?_⟩
  cases i with
  |zero=>exact h1
  |succ i=>exact h4 i (by simpa using k1) (by simpa using k2)
theorem a4T{w:World}{t:TypeId}{fs:Array Field}{cs:List Value}{xs:List C}{n:Nat}(ts:List (TypeId × Nat × Nat))(h:Tryz.prog.underlying t=some (.struct fs))(hz:Tryz.prog.cellsOf t=n)(hn:cs.length=n)(hts:fs.toList.map (fun f=>(f.type,f.offset,Tryz.prog.cellsOf f.type))=ts)(hcov:∀j,j<n -> ∃i,∃h:i<ts.length,ts[i].2.1<=j/\j<ts[i].2.1+ts[i].2.2)(hx:Parts w cs ts xs):Rp Tryz.prog w t cs (.a xs):=by
 subst hts
 obtain⟨hl,hx⟩:=hx.at
 have hsz:(fs.toList.map (fun f=>(f.type,f.offset,Tryz.prog.cellsOf f.type))).length=fs.size:=by simp
 refine Rp.struct h (hn.trans hz.symm) (hl.trans hsz) ?_ ?_
 ·intro j hj
  obtain⟨i,hi,h1,h2⟩:=hcov j (by omega)
  refine⟨i,by omega,?_,?_⟩
  ·simpa using h1
  ·simpa using h2
 ·intro i h1 h2
  have:=hx i (by omega) h2
  simpa using this
def a6C:List (TypeId × Nat × Nat):=[(3,0,1),(3,1,1),(9,2,1)]
def a9h:List (TypeId × Nat × Nat):=[(3,0,1),(3,1,1),(23,2,3),(9,5,1),(24,6,1)]
theorem b7C:∀j,j<3 -> ∃i,∃h:i<a6C.length,a6C[i].2.1<=j/\j<a6C[i].2.1+a6C[i].2.2
 |0,_=>⟨0,by decide,by decide,by decide⟩
 |1,_=>⟨1,by decide,by decide,by decide⟩
 |2,_=>⟨2,by decide,by decide,by decide⟩
 |j+3,h=>absurd h (by omega)
theorem b8w:∀j,j<7 -> ∃i,∃h:i<a9h.length,a9h[i].2.1<=j/\j<a9h[i].2.1+a9h[i].2.2
 |0,_=>⟨0,by decide,by decide,by decide⟩
 |1,_=>⟨1,by decide,by decide,by decide⟩
 |2,_=>⟨2,by decide,by decide,by decide⟩
 |3,_=>⟨2,by decide,by decide,by decide⟩
 |4,_=>⟨2,by decide,by decide,by decide⟩
 |5,_=>⟨3,by decide,by decide,by decide⟩
 |6,_=>⟨4,by decide,by decide,by decide⟩
 |j+7,h=>absurd h (by omega)
theorem a4P(w:World)(op int vk vi:Int)(vs nm:S)(l:List X)(v:Value)(h1:vs.length<=maxLen)(h2:nm.length<=maxLen)(hl:XL w l v):XR w (.mk op int vk vi vs nm l) [.int .i64 op,.int .i64 int,.int .i64 vk,.int .i64 vi,S_ vs,S_ nm,v]:=by
 have hv:Rp Tryz.prog w 23 [.int .i64 vk,.int .i64 vi,S_ vs] (.a [.l (.int .i64 vk),.l (.int .i64 vi),.l (S_ vs)]):=
  a4T a6C Tryz.underlying23 a2K rfl (by kernel_rfl) b7C ⟨Rp.int Tryz.underlying3,Rp.int Tryz.underlying3,Rp.string Tryz.underlying9 (by simpa[ByteArray.size] using h1),trivial⟩
 unfold XR
 rw[toC]
 exact a4T a9h Tryz.underlying26 a0H rfl (by kernel_rfl) b8w ⟨Rp.int Tryz.underlying3,Rp.int Tryz.underlying3,hv,Rp.string Tryz.underlying9 (by simpa[ByteArray.size] using h2),hl,trivial⟩
theorem b2p(w:World)(op int vk vi:Int)(vs nm:S)(h1:vs.length<=maxLen)(h2:nm.length<=maxLen):XR w (.mk op int vk vi vs nm []) [.int .i64 op,.int .i64 int,.int .i64 vk,.int .i64 vi,S_ vs,S_ nm,.slice none 0 0]:=
 a4P w op int vk vi vs nm [] _ h1 h2 (Rp.nil Tryz.underlying24)
structure OwnX(B:Nat)(v:Value)(l:List X)(w:World):Prop where
 row:∃css:List (List Value),css.length=l.length/\(∀c∈css,c.length=7)/\w.ownsRow B 26 7 v l.length css.flatten /\
  ∀k (h1:k<l.length) (h2:k<css.length),∀w':World,(∀b,B<=b->b<w.heap.size->v.ownBlock ≠ some b->w'.heap[b]? = w.heap[b]?)->XR w' l[k] css[k]
theorem OwnX.nil(B:Nat)(w:World):OwnX B (.slice none 0 0) [] w:=⟨[],rfl,(fun c hc=>absurd hc (by simp)),World.ownsRow_nil _ _ _ _,(fun k h=>absurd h (by simp))⟩
theorem OwnX.own{B:Nat}{v:Value}{l:List X}{w:World}(h:OwnX B v l w):∃xs,w.ownsRow B 26 7 v l.length xs:=by
 obtain⟨css,_,_,h3,_⟩:=h.row
 exact⟨_,h3⟩
theorem OwnX.below{B:Nat}{v:Value}{l:List X}{w w':World}(h:OwnX B v l w)(hb:Below w.heap.size w w'):OwnX B v l w':=by
 obtain⟨css,h1,h2,h3,h4⟩:=h.row
 exact⟨css,h1,h2,a0r h3 hb,fun k k1 k2 w2 hw2=>h4 k k1 k2 w2 fun b b1 b2 b3=>(hw2 b b1 (Nat.lt_of_lt_of_le b2 hb.size) b3).trans (hb.block b b2)⟩
theorem OwnX.snoc{B lo hi:Nat}{v v':Value}{l:List X}{x:X}{cs:List Value}{w w':World}{css:List (List Value)}(hl:css.length=l.length)(hc:∀c∈css,c.length=7)(hcs:cs.length=7)(he:∀k (h1:k<l.length) (h2:k<css.length),∀w':World,(∀b,B<=b->b<w.heap.size->v.ownBlock ≠ some b->w'.heap[b]? = w.heap[b]?)->XR w' l[k] css[k])(hx:XF lo hi w x cs)(hlo:B<=lo)(hhi:hi<=w.heap.size)(hv:∀g,v.ownBlock=some g->g<lo\/hi<=g)(hr:w'.ownsRow B 26 7 v' (l.length+1) (css.flatten++cs))(hg:w.grownBy w' v.ownBlock)(ha:v'.ownBlock=v.ownBlock\/v'.ownBlock=some w.heap.size):OwnX B v' (l++[x]) w':=by
 have keep:∀b,b<w.heap.size->v.ownBlock ≠ some b->w'.heap[b]? = w.heap[b]? := fun b h1 h2=>hg.block b h1 (fun e=>h2 e.symm)
 have size:w.heap.size<=w'.heap.size:=hg.size
 refine⟨css++[cs],by simp[hl],fun c hc'=>?_,?_,fun k k1 k2 w2 hw2=>?_⟩
 ·rcases List.mem_append.1 hc' with h|h
  ·exact hc c h
  ·obtain rfl:=List.mem_singleton.1 h;exact hcs
 ·rw[List.length_append,List.flatten_append]
  simpa using hr
 ·have hw3:∀b,B<=b->b<w.heap.size->v.ownBlock ≠ some b->w2.heap[b]? = w.heap[b]? := fun b b1 b2 b3=>(hw2 b b1 (by omega) (by
   rcases ha with h|h
   ·rw[h];exact b3
   ·rw[h];intro e;injection e with e;omega)).trans (keep b b2 b3)
  by_cases hk:k<l.length
  ·rw[List.getElem_append_left hk,List.getElem_append_left (by omega)]
   exact he k hk (by omega) w2 hw3
  ·have hk2:k=l.length:=by simp at k1;omega
   subst hk2
   rw[List.getElem_append_right (Nat.le_refl _),List.getElem_append_right (by omega)]
   simp only[hl,Nat.sub_self,List.getElem_singleton]
   exact hx w2 fun b b1 b2=>hw3 b (by omega) (by omega) (fun e=>by have:=hv b e;omega)
theorem OwnX.done{B:Nat}{v:Value}{l:List X}{w:World}(h:OwnX B v l w)(hn:l.length<=1000000):(∃a c,v=.slice a l.length c) /\ ∀w':World,(∀b,B<=b->b<w.heap.size->w'.heap[b]? = w.heap[b]?)->XL w' l v:=by
 obtain⟨css,h1,h2,h3,h4⟩:=h.row
 rcases h3.2 with⟨rfl,h0⟩|⟨g,cap,cur,rfl,hg,hc,hcap,hm,hs,ht⟩
 ·have hl0:l=[]:=List.eq_nil_of_length_eq_zero h0
  subst hl0
  exact⟨⟨_,_,rfl⟩,fun w' _=>Rp.nil Tryz.underlying24⟩
 ·refine⟨⟨_,_,rfl⟩,fun w' hw'=>?_⟩
  have hlt:g<w.heap.size:=(Array.getElem?_eq_some_iff.1 hc).1
  have hg':w'.heap[g]? = some (.cells cur 26 (0,0)):=(hw' g hg hlt).trans hc
  unfold XL
  refine Rp.slice (fun i=>css.getD i []) Tryz.underlying24 hcap hm (by rw[a0l,List.length_map]) ?_ ?_ ?_
  ·rw[(by kernel_rfl:Tryz.prog.bytesOf 26=88)]
   unfold reachBytes
   omega
  ·intro i hi
   rw[a0H]
   have hi2:i<css.length:=by omega
   rw[List.getD_eq_getElem?_getD,List.getElem?_eq_getElem hi2,Option.getD_some]
   have h7:=h2 _ (List.getElem_mem hi2)
   refine World.cells?_of_each (Nat.zero_le _) h7 fun j hj=>?_
   have e:((⟨g,0,none⟩:Addr).add (i*7)).add j=⟨g,i*7+j,none⟩:=by rw[Addr.add_lit,Addr.add_lit];simp
   rw[e,cell_of_row w' g (i*7+j) cur 26 (0,0) hg']
   have hf:css.flatten[i*7+j]? = css[i][j]? := by
    have gen:∀(css:List (List Value)) (i:Nat) (hi:i<css.length),(∀c∈css,c.length=7)->css.flatten[i*7+j]? = css[i][j]? := by
     intro css
     induction css with
     |nil=>intro i hi;simp at hi
     |cons c css ih=>
      intro i hi hall
      have hc7:=hall c (by simp)
      cases i with
      |zero=>rw[List.flatten_cons,List.getElem?_append_left (by omega)];simp
      |succ i=>
       rw[List.flatten_cons,List.getElem?_append_right (by omega),hc7,show(i+1)*7+j - 7=i*7+j by omega,List.getElem_cons_succ]
       exact ih i (by simpa using hi) (fun c hc=>hall c (List.mem_cons_of_mem _ hc))
    exact gen css i hi2 h2
   rw[<-hf,<-ht,List.getElem?_take,if_pos (by omega)]
   simp
  ·intro i hi
   have hi1:i<l.length:=by rw[a0l,List.length_map] at hi;exact hi
   have hi2:i<css.length:=by omega
   have e:(a1Q l)[i]=toC l[i]:=by simp[a0l]
   rw[e,List.getD_eq_getElem?_getD,List.getElem?_eq_getElem hi2,Option.getD_some]
   exact h4 i hi1 hi2 w' fun b b1 b2 _=>hw' b b1 b2
def a1A(cols:List Col)(s:S):Int:=match a2o s (cols.map (·.nm)) 0 with|some i=>(i:Int)|none=>-1
theorem b0Y{s:S}:∀ {l:List S} {k i:Nat} (hk:k<l.length),(∀j (hj:j<l.length),j<k->l[j] ≠ s)->l[k]=s->a2o s l i=some (i+k)
 |a::l,0,i,_,_,e=>by
  have e:a=s:=e
  unfold a2o
  rw[if_pos e]
  rfl
 |a::l,k+1,i,hk,hn,e=>by
  unfold a2o
  rw[if_neg (show ¬a=s from hn 0 (by simp) (by omega)),b0Y (k:=k) (by simpa using hk) (fun j hj hjk=>hn (j+1) (by simpa using hj) (by omega)) (by simpa using e)]
  congr 1
  omega
theorem b0R{s:S}:∀ {l:List S} {i:Nat},(∀j (hj:j<l.length),l[j] ≠ s)->a2o s l i=none
 |[],_,_=>rfl
 |a::l,i,hn=>by
  unfold a2o
  rw[if_neg (show ¬a=s from hn 0 (by simp)),b0R (fun j hj=>hn (j+1) (by simpa using hj))]
theorem b0C{cols:List Col}{s:S}{k:Nat}(hk:k<cols.length)(hn:∀j (hj:j<cols.length),j<k->cols[j].nm ≠ s)(e:cols[k].nm=s):a1A cols s=(k:Int):=by
 unfold a1A
 rw[b0Y (k:=k) (i:=0) (by simpa using hk) (fun j hj hjk=>by simpa using hn j (by simpa using hj) hjk) (by simpa using e)]
 simp
theorem b0Q{cols:List Col}{s:S}(hn:∀j (hj:j<cols.length),j<cols.length->cols[j].nm ≠ s):a1A cols s = -1:=by
 unfold a1A
 rw[b0R (fun j hj=>by
  have hj':j<cols.length:=by simpa using hj
  simpa using hn j hj' hj')]
theorem a7B(L:List Col)(s tn:S)(a:Option Addr)(m:Nat)(v2 v3 v4:Value)(w:World)(hn:L.length<=1099511627776)(hl:CL w L (.slice a L.length m)):Calls Tryz.prog 209 #[.agg #[.string ⟨tn.toArray⟩,.slice a L.length m,v2,v3,v4],.string ⟨s.toArray⟩] w (Ret w (.int .i64 (a1A L s))):=by
 have HL:=h_ hl
 clear hl
 go_enter Tryz.func209,Tryz.ntmps209
 go_upto_region 1 with(fail)
 refine nA fun w1 hB hw1 hz1=>?_
 have HW:=h_ hw1
 have p1:=hB.cell 1 rfl
 clear hB hw1 hz1
 go_upto_region 2 with(fail)
 go_loop [5] (fun i=>∃k:Nat,k<=L.length/\i=.int .i64 k /\ ∀j (hj:j<L.length),j<k->L[j].nm ≠ s) (fun i=>L.length - (intOf i).toNat)
 case atStart=>exact⟨0,Nat.zero_le _,rfl,fun j _ h=>absurd h (by omega)⟩
 case round=>
  obtain⟨k,hk,rfl,hr⟩:=hrel
  by_cases hlt:k<L.length
  ·obtain⟨g,o,rfl,hx,hc⟩:=HL.out.at_ hlt
   have c0:=hc.at0 HW.out rfl
   have k0:(0:Int)<=(k:Int):=by omega
   have k1:(k:Int)<(L.length:Int):=by omega
   have HNO:=h_ hr
   have HYES:=h_ (fun h1=>b0C (s:=s) hlt hr h1)
   clear hr hc
   generalize hnm:L[k].nm=nm at c0 HYES
   have HN:=h_ hnm
   clear hnm
   by_cases hnt:nm=s
   ·have HC:=h_ (HYES.out hnt)
    clear HYES HNO
    subst hnt
    go_wp2_with fail
    go_ret
    exact⟨by rw[HC.out];rfl,HW.out⟩
   ·have HC:Hid (∀q (h:q<L.length),q<k+1->L[q].nm ≠ s):=h_ (fun q h hq=>by
     by_cases hqk:q<k
     ·exact HNO.out q h hqk
     ·obtain rfl:q=k:=by omega
      rw[HN.out];exact hnt)
    have d3:(nm==s)=false:=by simpa using hnt
    clear HYES HNO
    go_wp2_with fail
    go_round
    case rel=>exact⟨k+1,by omega,by go_num,HC.out⟩
    case measure=>simp[intOf];omega
  ·obtain rfl:k=L.length:=by omega
   have HF:=h_ (b0Q hr)
   have d1:decide ((L.length:Int)<(L.length:Int))=false:=decide_eq_false (by omega)
   clear hr
   go_wp2_with fail
   go_ret
   exact⟨by rw[HF.out];rfl,HW.out⟩
def y_(L:List Col):List Int:=L.map (·.kind)
theorem a7S{L:List Col}{k:Nat}(h:k<L.length):y_ (L.take (k+1))=y_ (L.take k)++[L[k].kind]:=by
 unfold y_
 rw[List.take_succ_eq_append_getElem h,List.map_append]
 rfl
theorem a0Z(L:List Col):(y_ L).length=L.length:=by simp[y_]
theorem b7D{B:Nat}{v:Value}{M:List Int}{w:World}(h:a0v B v M w)(hb:∃g,v.ownBlock=some g):∃g c,v=.slice (some ⟨g,0,none⟩) M.length c:=by
 rcases h.2 with⟨rfl,h0⟩|⟨g,cap,cur,rfl,_⟩
 ·obtain⟨g,hg⟩:=hb
  cases hg
 ·exact⟨g,cap,rfl⟩
theorem b1o(L:List Col)(tn:S)(a:Option Addr)(m:Nat)(v2 v3 v4:Value)(w:World)(hn:L.length<=1000000)(hl:CL w L (.slice a L.length m)):Calls Tryz.prog 213 #[.agg #[.string ⟨tn.toArray⟩,.slice a L.length m,v2,v3,v4]] w fun e w'=>∃g c,e=.returned (.slice (some ⟨g,0,none⟩) L.length c)/\a0v w.heap.size (.slice (some ⟨g,0,none⟩) L.length c) (y_ L) w'/\Below w.heap.size w w':=by
 obtain⟨i0,hi0,hz0,hz1,hz2⟩:=info_parts a4L
 have HL:=h_ hl
 clear hl
 go_enter Tryz.func213,Tryz.ntmps213
 go_upto_region 1 with(fail)
 refine nA fun w1 hB hw1 hz1'=>?_
 have HW:=h_ hw1
 have HB:=h_ hB
 clear hB hw1 hz1'
 go_upto_region 2 with(fail)
 refine a7m (K:=Code.wp _ _ _ _) (B:=w1.heap.size) (n:=0) (Nat.le_refl _) (by decide) rfl fun w2 hO2 hw2=>?_
 have HO0:Hid (a0v w1.heap.size (.slice (some ⟨w1.heap.size,0,none⟩) 0 0) [] w2):=h_ hO2
 have HB0:=h_ hw2
 clear hO2 hw2
 go_upto_region 3 with(fail)
 go_loopw [3,4] (fun v i wr=>∃(k:Nat),k<=L.length/\i=.int .i64 (k:Int)/\(∃g,v.ownBlock=some g)/\a0v w1.heap.size v (y_ (L.take k)) wr/\Below w1.heap.size w1 wr) (fun _ i _=>L.length - (intOf i).toNat)
 case atStart=>exact⟨0,Nat.zero_le _,rfl,⟨_,rfl⟩,HO0.out,HB0.out⟩
 case round=>
  obtain⟨k,hk,rfl,hob,ho,hb⟩:=hrel
  have HOB:=h_ hob
  have HO:=h_ ho
  have HB1:=h_ hb
  have HWb:=t_ HW hb
  have hlt2:∀g,u3.ownBlock=some g->w1.heap.size<=g:=fun g e=>(ho.lt g e).1
  have p1:=(HB.out.below hb).cell 1 rfl
  clear hob ho hb HO0 HB0
  by_cases hlt:k<L.length
  ·obtain⟨g,o,rfl,hx,hc⟩:=HL.out.at_ hlt
   have c0:=hc.at0 HWb.out rfl
   have c1:=hc.at_ HWb.out (j:=1) rfl
   have c2:=hc.at_ HWb.out (j:=2) rfl
   have k0:(0:Int)<=(k:Int):=by omega
   have k1:(k:Int)<(L.length:Int):=by omega
   have HK:=h_ (a7S hlt)
   have hml:(y_ (L.take k)).length<=1000000:=by rw[a0Z,List.length_take];omega
   clear hc
   generalize y_ (L.take k)=m2 at HK HO hml
   generalize L[k].kind=q1 at c1 HK
   generalize L[k].nm=nm at c0
   generalize L[k].nul=nl at c2
   go_wp2_with (at_builtin;refine wpList_append_own_at _ rfl (.tmp 13) (.tmp 20) 50 rfl w1.heap.size 3 i0 _ 1 8 Tryz.underlying50 hi0 hz0 hz1 hz2 rfl (by omega) u3 m2.length _ rfl (World.ownsRow.alloc HO.out _) ⟨wr.heap.size,0,none⟩ 1 1 [.int .i64 q1] rfl rfl (a1d _ _ _) (fun u hu=>by obtain rfl:=List.mem_singleton.1 hu;rfl) (by unfold maxLen;omega) (by omega) (Nat.le_trans HB1.out.size (by simp)) ?_)
   intro v3' w5 hown3 hg3 _ hat3
   have hb5:Below w1.heap.size w1 w5:=(HB1.out.alloc HB1.out.size _).grown hg3 (Nat.le_trans HB1.out.size (by simp)) hlt2
   have HO3:Hid (a0v w1.heap.size v3' (m2++[q1]) w5):=h_ (a0v.snoc hown3)
   have HOB2:Hid (∃g,v3'.ownBlock=some g):=h_ (by
    rcases hat3 with e|e
    ·rw[e];exact HOB.out
    ·exact⟨_,e⟩)
   clear hown3 hg3 hat3
   go_wp2_with fail
   go_roundw
   case rel=>exact⟨k+1,by omega,by go_num,HOB2.out,by rw[HK.out];exact HO3.out,hb5⟩
   case measure=>simp[intOf];omega
  ·obtain rfl:k=L.length:=by omega
   have d1:decide ((L.length:Int)<(L.length:Int))=false:=decide_eq_false (by omega)
   have HF:Hid (a0v w1.heap.size u3 (y_ L) wr):=h_ (by have:=HO.out;rwa [List.take_length] at this)
   obtain⟨g,c,ev⟩:=b7D HF.out HOB.out
   rw[a0Z] at ev
   subst ev
   clear HO HOB
   go_wp2_with fail
   go_ret
   exact⟨g,c,rfl,own_base HF.out HW.out.size,HWb.out⟩
theorem a0X{K:World->Prop}{w:World}{cs1 cs2 cs3:List Value}{t1 t2 t3:TypeId}(h:∀w',Blk w' w.heap.size cs1 t1->Blk w' (w.heap.size+1) cs2 t2->Blk w' (w.heap.size+1+1) cs3 t3->Below w.heap.size w w'->w'.heap.size=w.heap.size+1+1+1->K w'):K (((w.alloc (.cells cs1.toArray t1)).alloc (.cells cs2.toArray t2)).alloc (.cells cs3.toArray t3)):=by
 have e2:=Blk.new (w.alloc (.cells cs1.toArray t1)) cs2 t2
 have e3:=Blk.new ((w.alloc (.cells cs1.toArray t1)).alloc (.cells cs2.toArray t2)) cs3 t3
 have s1:∀(w:World) (o:Obj),(w.alloc o).heap.size=w.heap.size+1:=fun w o=>by simp
 rw[s1] at e2
 rw[s1,s1] at e3
 exact h _ (((Blk.new w cs1 t1).alloc _).alloc _) (e2.alloc _) e3 ((((Below.refl _ _).alloc (Nat.le_refl _) _).alloc (by simp) _).alloc (by simp;omega) _) (by simp)
theorem a0p{w:World}{g k:Nat}{u:Value}{cs:List Value}{t:TypeId}{K:World->Prop}(hb:Blk w g cs t)(h:∀w',Blk w' g (cs.set k u) t->Below g w w'->w'.heap.size=w.heap.size->(∀i,i ≠ g->w'.heap[i]? = w.heap[i]?)->K w'):K (w.setCell ⟨g,k,none⟩ u):=
 h _ (hb.set k u) ⟨rfl,rfl,rfl,by simp[World.setCell],fun i hi=>Below.heap_setCell w _ u i (by show i ≠ g;omega)⟩ (by simp[World.setCell]) fun i hi=>Below.heap_setCell w _ u i hi
theorem EC.same{w w':World}{g o:Nat}{cs:List Value}(h:EC w g o cs)(hb:w'.heap[g]? = w.heap[g]?)(hs:w.heap.size<=w'.heap.size):EC w' g o cs:=
 ⟨Nat.lt_of_lt_of_le h.1 hs,fun j u hj=>by rw[<-h.2 j u hj];exact World.cell?_of_block hb⟩
theorem a0v.same{B:Nat}{v:Value}{M:List Int}{w w':World}(h:a0v B v M w)(hb:∀i,B<=i->w'.heap[i]? = w.heap[i]?):a0v B v M w':=by
 refine⟨h.1,?_⟩
 rcases h.2 with h0|⟨g,cap,cur,e,hg,hc,r⟩
 ·exact .inl h0
 ·exact .inr ⟨g,cap,cur,e,hg,(hb g hg).trans hc,r⟩
structure Wr(w:World)(g:Nat)(cs:List Value)(t:TypeId)(w':World):Prop where
 blk:Blk w' g cs t
 low:Below g w w'
 size:w'.heap.size=w.heap.size
 far:∀i,i ≠ g->w'.heap[i]? = w.heap[i]?
theorem Wr.start{w:World}{g:Nat}{cs:List Value}{t:TypeId}(h:Blk w g cs t):Wr w g cs t w:=⟨h,Below.refl _ _,rfl,fun _ _=>rfl⟩
theorem Wr.set{w w':World}{g:Nat}{cs:List Value}{t:TypeId}(h:Wr w g cs t w')(k:Nat)(u:Value):Wr w g (cs.set k u) t (w'.setCell ⟨g,k,none⟩ u):=
 a0p (K:=fun w2=>Wr w g (cs.set k u) t w2) h.blk fun w2 h1 h2 h3 h4=>⟨h1,h.low.trans h2,h3.trans h.size,fun i hi=>(h4 i hi).trans (h.far i hi)⟩
theorem a0K{w:World}{g:Nat}{u0 u1 u2 u3 u4 u5 u6 c0 c1 c2 c3 c4 c5 c6:Value}{t:TypeId}{K:World->Prop}(hb:Blk w g [c0,c1,c2,c3,c4,c5,c6] t)(h:∀w',Wr w g [u0,u1,u2,u3,u4,u5,u6] t w'->K w') :
  K (((((((w.setCell ⟨g,0,none⟩ u0).setCell ⟨g,1,none⟩ u1).setCell ⟨g,2,none⟩ u2).setCell ⟨g,3,none⟩ u3).setCell ⟨g,4,none⟩ u4).setCell ⟨g,5,none⟩ u5).setCell ⟨g,6,none⟩ u6):=
 h _ (((((((Wr.start hb).set 0 u0).set 1 u1).set 2 u2).set 3 u3).set 4 u4).set 5 u5 |>.set 6 u6)
def zeroV:Value:=.agg #[.int .i64 0,.int .i64 0,.int .i64 0,.int .i64 0,.string ⟨#[]⟩,.string ⟨#[]⟩,.slice none 0 0]
def xc:X->Option Addr->Nat->List Value
 |.mk op int vk vi vs nm l,a,m=>[.int .i64 op,.int .i64 int,.int .i64 vk,.int .i64 vi,.string ⟨vs.toArray⟩,.string ⟨nm.toArray⟩,.slice a l.length m]
def a2X(w:World)(r:RX)(e:Ending)(w':World):Prop:=
 (match r with
  |.ok y=>∃a m,e=.returned (.tuple #[.agg (xc y a m).toArray,.int .i64 0])/\XF w.heap.size w'.heap.size w' y (xc y a m)
  |.no q=>e=.returned (.tuple #[zeroV,.int .i64 q]))/\Below w.heap.size w w'
theorem a2X.leaf{w w':World}{e:Ending}{op int vk vi:Int}{vs nm:S}(h1:vs.length<=maxLen)(h2:nm.length<=maxLen)(h:Ret w (.tuple #[.agg #[.int .i64 op,.int .i64 int,.int .i64 vk,.int .i64 vi,.string ⟨vs.toArray⟩,.string ⟨nm.toArray⟩,.slice none 0 0],.int .i64 0]) e w'):a2X w (.ok (.mk op int vk vi vs nm [])) e w':=
 ⟨⟨none,0,h.1,fun w2 _=>b2p w2 op int vk vi vs nm h1 h2⟩,h.2⟩
theorem a2X.fail{w w':World}{e:Ending}{q:Int}(h:Ret w (.tuple #[zeroV,.int .i64 q]) e w'):a2X w (.no q) e w':=⟨h.1,h.2⟩
def c2S(v:Int):Value:=if v<0 then .tuple #[zeroV,.int .i64 11] else .tuple #[.agg #[.int .i64 2,.int .i64 v,.int .i64 0,.int .i64 0,.string ⟨#[]⟩,.string ⟨#[]⟩,.slice none 0 0],.int .i64 0]
theorem a2X.name{w w':World}{e:Ending}{V:Int}(h:Ret w (c2S V) e w'):a2X w (if V<0 then .no 11 else .ok (c2Z V)) e w':=by
 unfold c2S at h
 by_cases hv:V<0
 ·rw[if_pos hv] at h |-;exact a2X.fail h
 ·rw[if_neg hv] at h |-;exact a2X.leaf (by decide) (by decide) h
theorem Y_{n:Nat}{w w':World}(h:Below n w w'):Below n w w'.drew:=⟨h.os,h.tape,h.output,h.size,h.block⟩
theorem N_{n:Nat}{w w':World}(h:Below n w.drew w'):Below n w w':=⟨h.os,h.tape,h.output,h.size,h.block⟩
theorem a2e:(Tryz.prog.info? 26).map (fun i=>(i.zero,i.size,i.bytes))=some (some zeroV,7,88):=by kernel_rfl
theorem b7I(nm s:S)(kd:Int)(nl:Bool)(b:Nat)(w:World)(hb:Blk w b [.string ⟨s.toArray⟩] 9):Calls Tryz.prog 299 #[.agg #[.string ⟨nm.toArray⟩,.int .i64 kd,.bool nl],.pointer (some ⟨b,0,none⟩)] w (Ret w (.bool (decide (nm=s)))):=by
 have HBB:=h_ hb
 clear hb
 go_enter Tryz.func299,Tryz.ntmps299
 go_upto_region 1 with(fail)
 refine nA fun w1 hB hw1 hz1=>?_
 have HW:=h_ hw1
 have HC:=h_ (HBB.out.below hw1)
 have p0:=hB.cell 0 rfl
 have q0:=HC.out.cell 0 rfl
 clear hB hw1 hz1
 by_cases he:nm=s
 ·have HE:Hid (decide (nm=s)=true):=h_ (decide_eq_true he)
  have d0:(nm==s)=true:=by simpa using he
  clear he
  go_wp2_with fail
  go_ret
  exact⟨by rw[HE.out];simp_all,HW.out⟩
 ·have HE:Hid (decide (nm=s)=false):=h_ (decide_eq_false he)
  have d0:(nm==s)=false:=by simpa using he
  clear he
  go_wp2_with fail
  go_ret
  exact⟨by rw[HE.out];simp_all,HW.out⟩
theorem b0o(L:List Col)(s:S)(a:Option Addr)(m b:Nat)(w:World)(hn:L.length<=1099511627776)(hl:CL w L (.slice a L.length m))(hb:Blk w b [.string ⟨s.toArray⟩] 9):Calls Tryz.prog 292 #[.slice a L.length m,.func (.func 299) #[] #[.pointer (some ⟨b,0,none⟩)]] w (Ret w (.int .i64 (a1A L s))):=by
 have HL:=h_ hl
 have HB:=h_ hb
 clear hl hb
 go_enter Tryz.func292,Tryz.ntmps292
 go_upto_region 2 with(fail)
 go_loopw [5,8] (fun _ i wr=>∃k:Nat,k<=L.length/\i=.int .i64 (k:Int)/\Hid (∀j (hj:j<L.length),j<k->L[j].nm ≠ s)/\Below w.heap.size w wr) (fun _ i _=>L.length - (intOf i).toNat)
 case atStart=>exact⟨0,Nat.zero_le _,rfl,h_ (fun j hj h=>absurd h (by omega)),Below.refl _ _⟩
 case round=>
  obtain⟨k,hk,rfl,HR,hbw⟩:=hrel
  have HWr:=h_ hbw
  clear hbw
  by_cases hlt:k<L.length
  ·obtain⟨g,o,rfl,hx,hc⟩:=HL.out.at_ hlt
   have k0:(0:Int)<=(k:Int):=by omega
   have k1:(k:Int)<(L.length:Int):=by omega
   have c0:=hc.at0 HWr.out rfl
   have c1:=hc.at_ HWr.out (j:=1) rfl
   have c2:=hc.at_ HWr.out (j:=2) rfl
   have HYES:=h_ (fun h1=>b0C (s:=s) hlt HR.out h1)
   have HNO:Hid (L[k].nm ≠ s -> ∀q (h:q<L.length),q<k+1->L[q].nm ≠ s):=h_ (fun hne q h hq=>by
    by_cases hqk:q<k
    ·exact HR.out q h hqk
    ·obtain rfl:q=k:=by omega
     exact hne)
   have HFS:=h_ (b7I L[k].nm s L[k].kind L[k].nul b wr (HB.out.below HWr.out))
   clear hc
   generalize L[k].nm=nm at c0 HYES HNO HFS
   generalize L[k].kind=kd at c1 HFS
   generalize L[k].nul=nl at c2 HFS
   go_wp2_with fail
   refine HFS.out.mono ?_
   rintro e w2 ⟨rfl,hw2⟩
   have HW2:=t_ HWr hw2
   clear hw2 HFS c0 c1 c2
   by_cases he:nm=s
   ·have HC:=h_ (HYES.out he)
    have d0:decide (nm=s)=true:=decide_eq_true he
    clear HYES HNO
    rw[d0]
    clear he d0
    go_wp2_with fail
    go_ret
    exact⟨by rw[HC.out];rfl,HW2.out⟩
   ·have HN:=h_ (HNO.out he)
    have d0:decide (nm=s)=false:=decide_eq_false he
    clear HYES HNO
    rw[d0]
    clear he d0
    go_wp2_with fail
    go_roundw
    case rel=>exact⟨k+1,by omega,by go_num,HN,HW2.out⟩
    case measure=>simp[intOf];omega
  ·obtain rfl:k=L.length:=by omega
   have HF:=h_ (b0Q HR.out)
   have d1:decide ((L.length:Int)<(L.length:Int))=false:=decide_eq_false (by omega)
   go_wp2_with fail
   go_ret
   exact⟨by rw[HF.out];rfl,HWr.out⟩
theorem b4O(L:List Col)(s tn:S)(a:Option Addr)(m:Nat)(v2 v3 v4:Value)(w:World)(hn:L.length<=1099511627776)(hl:CL w L (.slice a L.length m)):Calls Tryz.prog 260 #[.agg #[.string ⟨tn.toArray⟩,.slice a L.length m,v2,v3,v4],.string ⟨s.toArray⟩] w (Ret w (.int .i64 (a1A L s))):=by
 have HL:=h_ hl
 clear hl
 go_enter Tryz.func260,Tryz.ntmps260
 go_upto_region 1 with(fail)
 refine nB fun w1 hA hB hw1 hz1=>?_
 have HB:=h_ hB
 have HW:=h_ hw1
 have p1:=hA.cell 1 rfl
 clear hA hB hw1 hz1
 go_wp2_with fail
 refine(b0o L s a m (w.heap.size+1) w1 hn (HL.out.kept HW.out (Nat.le_refl _)) HB.out).mono ?_
 rintro e w2 ⟨rfl,hw2⟩
 have HW2:=t_ HW hw2
 clear hw2 p1
 go_wp2_with fail
 go_ret
 exact⟨rfl,HW2.out⟩
end Go.Proofs.YtlimlmjljjmcpaaGreatDoor.Px
