import Derived.Test.YtlimlmjljjmcpaaGreatDoorBdA
import Derived.Test.YtlimlmjljjmcpaaGreatDoorBtA
import Derived.Deep.Upon
set_option maxHeartbeats 16000000
set_option maxRecDepth 100000
namespace Go.Proofs.YtlimlmjljjmcpaaGreatDoor.Px
open Go Go.RowKit Go.Proofs.YtlimlmjljjmcpaaGreatDoor.Ps
set_option linter.unusedVariables false
set_option linter.unusedSimpArgs false
def b9X(c:C):Prop:=∃v,c=.l v
def a6v(c:C):Prop:=b9X c \/ ∃xs:List C,c=.a xs /\ ∀x∈xs,b9X x
theorem b4v{P:Program}{w w':World}{t:TypeId}{cs:List Value}{c:C}(hf:b9X c)(h:Rp P w t cs c):Rp P w' t cs c:=by
 obtain⟨v,rfl⟩:=hf
 cases h with
 |int h=>exact .int h
 |bool h=>exact .bool h
 |string h hs=>exact .string h hs
theorem b9V{P:Program}{w w':World}{t:TypeId}{cs:List Value}{c:C}(hf:a6v c)(h:Rp P w t cs c):Rp P w' t cs c:=by
 rcases hf with hf|⟨xs,rfl,hx⟩
 ·exact b4v hf h
 ·cases h with
  |struct h1 h2 h3 h4 h5=>exact .struct h1 h2 h3 h4 fun i k1 k2=>b4v (hx _ (List.getElem_mem k2)) (h5 i k1 k2)
theorem b5h{w w1:World}{t e:TypeId}{B n m size:Nat}{q:Addr}{xs:List C}{v':Value}{news:List Value}(hu:Tryz.prog.underlying t=some (.slice e))(hs:Tryz.prog.cellsOf e=size)(h:Rp Tryz.prog w t [.slice (some q) n m] (.s xs))(hn:∀j u,news[j]? = some u->w.cell? (q.add j)=some u)(hown:w1.ownsRow B e size v' n news)(hel:∀x∈xs,a6v x) :
  ∃a' m',v'=.slice a' n m' /\ ∀w':World,(∀b,B<=b->b<w1.heap.size->w'.heap[b]? = w1.heap[b]?)->Rp Tryz.prog w' t [v'] (.s xs):=by
 subst hs
 have hb:=h.bound hu
 obtain⟨hnl,hr⟩:=hown
 cases h with
 | @slice t e2 q2 len cap xs f h hc hm hl hb' hcs hx=>
  rw[hu] at h
  cases h
  rcases hr with⟨rfl,h0⟩|⟨g,cap',cur,rfl,hg,hcc,hcap,hmm,hsz,ht⟩
  ·subst h0
   have hxe:xs=[]:=List.eq_nil_of_length_eq_zero hl
   subst hxe
   exact⟨none,0,rfl,fun w' _=>.nil hu⟩
  ·refine⟨_,_,rfl,fun w' hw'=>?_⟩
   have hlt:g<w1.heap.size:=(Array.getElem?_eq_some_iff.1 hcc).1
   have hg':w'.heap[g]? = some (.cells cur e (0,0)):=(hw' g hg hlt).trans hcc
   refine Rp.slice f hu hcap hmm hl hb (fun i hi=>?_) fun i hi=>b9V (hel _ (List.getElem_mem hi)) (hx i hi)
   obtain⟨k1,k2,k3⟩:=World.cells?_some (hcs i hi)
   refine World.cells?_of_each (Nat.zero_le _) k2 fun j hj=>?_
   have hij:i*Tryz.prog.cellsOf e+j<n*Tryz.prog.cellsOf e:=by
    have:(i+1)*Tryz.prog.cellsOf e<=n*Tryz.prog.cellsOf e:=Nat.mul_le_mul_right _ hi
    rw[Nat.succ_mul] at this
    omega
   have hij2:i*Tryz.prog.cellsOf e+j<news.length:=by omega
   have e1:=hn _ _ (List.getElem?_eq_getElem hij2)
   have e2:(q.add (i*Tryz.prog.cellsOf e)).add j=q.add (i*Tryz.prog.cellsOf e+j):=by
    first|exact Ps.add_add _ _ _|exact Addr.add_add _ _ _|(rw[Addr.add_add])
   rw[<-k3 j hj,e2,e1]
   have e5:((⟨g,0,none⟩:Addr).add (i*Tryz.prog.cellsOf e)).add j=⟨g,i*Tryz.prog.cellsOf e+j,none⟩:=by rw[Addr.add_lit,Addr.add_lit];simp
   rw[e5,cell_of_row w' g (i*Tryz.prog.cellsOf e+j) cur _ (0,0) hg',<-List.getElem?_eq_getElem hij2,<-ht,List.getElem?_take,if_pos hij]
   simp
def IF(lo hi:Nat)(w:World)(l:List Int)(v:Value):Prop:=∀w':World,(∀b,lo<=b->b<hi->w'.heap[b]? = w.heap[b]?)->IL w' l v
def c2s(w:World)(l:List Int)(e:Ending)(w':World):Prop:=(∃a m,e=.returned (.slice a l.length m)/\IF w.heap.size w'.heap.size w' l (.slice a l.length m))/\Below w.heap.size w w'
theorem b8L:(Tryz.prog.info? 3).map (fun i=>(i.zero,i.size,i.bytes))=some (some (.int .i64 0),1,8):=by kernel_rfl
theorem a6k(l:List Int)(a:Option Addr)(n m:Nat)(w:World)(h:IL w l (.slice a n m)):Calls Tryz.prog 127 #[.slice a n m] w (c2s w l):=by
 have hu:Tryz.prog.underlying 50=some (.slice 3):=Tryz.underlying50
 obtain⟨i0,hi,hz0,hz1,hz2⟩:=info_parts b8L
 have hnl:l.length=n:=by
  obtain⟨_,_,_,ys,e1,e2,e3,_⟩:=h.I_ hu
  injection e2 with e2
  injection e1 with e1
  injection e1 with _ e1 _
  rw[e1,<-e3,<-e2,List.length_map]
 have q1:∀(w:World) (a:Option Addr) (n c n' c':Nat),(binOp .eql 50 (.slice a n c) (.slice none n' c')).run Tryz.prog w=.ok (.bool a.isNone) w:=fun w a n c n' c'=>Lib.run_eql_slice_nil w _ _ a n c n' c' hu
 cases a with
 |none=>
  have hl:l=[]:=by
   obtain⟨_,_,_,ys,e1,e2,e3,_,_,hx⟩:=h.I_ hu
   injection e2 with e2
   injection e1 with e1
   injection e1 with e0 e1 _
   cases ys with
   |nil=>exact List.map_eq_nil_iff.1 e2
   |cons y ys=>obtain⟨q,_,eq,_⟩:=hx 0 (by simp);subst e0;cases eq
  subst hl
  clear h
  go_enter Tryz.func127,Tryz.ntmps127
  go_wp2
  go_ret
  exact⟨⟨none,0,rfl,fun w' _=>Rp.nil hu⟩,Below.refl _ _⟩
 |some q=>
  obtain⟨news,k1,k2,k3,k4⟩:=Ps.Rp.news hu h
  have hbd:=h.bound hu
  have hcl:Tryz.prog.cellsOf 3=1:=by kernel_rfl
  have hbl:Tryz.prog.bytesOf 3=8:=by kernel_rfl
  rw[hcl] at k1
  rw[hbl] at hbd
  have hml:n<=maxLen:=by
   obtain⟨_,_,_,ys,e1,e2,e3,e4,e5,hx⟩:=h.I_ hu
   injection e1 with e1
   injection e1 with _ e1 e6
   omega
  have HC:=h_ k2
  have H1:=h_ k3
  have HH:=h_ h
  have HNL:=h_ hnl
  clear k2 k3 h hnl
  go_enter Tryz.func127,Tryz.ntmps127
  go_wp2_with (at_builtin;refine wpList_append_own _ rfl _ _ 50 rfl w.heap.size 3 i0 _ 1 8 hu hi hz0 hz1 hz2 rfl (by decide) _ _ _ rfl (World.ownsRow_made w #[] 0 (Nat.le_refl _) (Nat.zero_le _) rfl) q n m news rfl k1 ?qc2 H1.out ?qc4 ?qc5 ?qc6 ?_)
  case qc2=>
   intro j u hj
   rw[((Below.refl w.heap.size w).alloc (Nat.le_refl _) _).cell (by
    rw[Ps.add_block]
    refine k4 ?_
    have:=(List.getElem?_eq_some_iff.1 hj).1
    omega)]
   exact HC.out j u hj
  case qc4=>omega
  case qc5=>unfold reachBytes at hbd;omega
  case qc6=>simp
  intro v' w1 hown hgrow hnil
  have hown2:w1.ownsRow w.heap.size 3 1 v' n news:=by simpa using hown
  obtain⟨a',m',e1,hr⟩:=b5h hu hcl HH.out HC.out hown2 (by
   intro x hx
   obtain⟨y,_,rfl⟩:=List.mem_map.1 hx
   exact .inl ⟨_,rfl⟩)
  subst e1
  go_wp2
  go_ret
  refine⟨⟨a',m',by rw[HNL.out];rfl,fun w' hw'=>by rw[HNL.out];exact hr w' hw'⟩,((Below.refl _ w).alloc (Nat.le_refl _) _).grown hgrow (by simp) (by intro k hk;simp[Value.ownBlock] at hk;omega)⟩
def CF(lo hi:Nat)(w:World)(l:List Col)(v:Value):Prop:=∀w':World,(∀b,lo<=b->b<hi->w'.heap[b]? = w.heap[b]?)->CL w' l v
def c2P(w:World)(l:List Col)(e:Ending)(w':World):Prop:=(∃a m,e=.returned (.slice a l.length m)/\CF w.heap.size w'.heap.size w' l (.slice a l.length m))/\Below w.heap.size w w'
theorem b9U:(Tryz.prog.info? 55).map (fun i=>(i.zero,i.size,i.bytes))=some (some (.agg #[.string ⟨#[]⟩,.int .i64 0,.bool false]),3,32):=by kernel_rfl
theorem b1y(l:List Col)(a:Option Addr)(n m:Nat)(w:World)(h:CL w l (.slice a n m)):Calls Tryz.prog 126 #[.slice a n m] w (c2P w l):=by
 have hu:Tryz.prog.underlying 49=some (.slice 55):=Tryz.underlying49
 obtain⟨i0,hi,hz0,hz1,hz2⟩:=info_parts b9U
 have hnl:l.length=n:=by
  obtain⟨_,_,_,ys,e1,e2,e3,_⟩:=h.I_ hu
  injection e2 with e2
  injection e1 with e1
  injection e1 with _ e1 _
  rw[e1,<-e3,<-e2,List.length_map]
 have q1:∀(w:World) (a:Option Addr) (n c n' c':Nat),(binOp .eql 49 (.slice a n c) (.slice none n' c')).run Tryz.prog w=.ok (.bool a.isNone) w:=fun w a n c n' c'=>Lib.run_eql_slice_nil w _ _ a n c n' c' hu
 cases a with
 |none=>
  have hl:l=[]:=by
   obtain⟨_,_,_,ys,e1,e2,e3,_,_,hx⟩:=h.I_ hu
   injection e2 with e2
   injection e1 with e1
   injection e1 with e0 e1 _
   cases ys with
   |nil=>exact List.map_eq_nil_iff.1 e2
   |cons y ys=>obtain⟨q,_,eq,_⟩:=hx 0 (by simp);subst e0;cases eq
  subst hl
  clear h
  go_enter Tryz.func126,Tryz.ntmps126
  go_wp2
  go_ret
  exact⟨⟨none,0,rfl,fun w' _=>Rp.nil hu⟩,Below.refl _ _⟩
 |some q=>
  obtain⟨news,k1,k2,k3,k4⟩:=Ps.Rp.news hu h
  have hbd:=h.bound hu
  have hcl:Tryz.prog.cellsOf 55=3:=by kernel_rfl
  have hbl:Tryz.prog.bytesOf 55=32:=by kernel_rfl
  rw[hcl] at k1
  rw[hbl] at hbd
  have hml:n<=maxLen:=by
   obtain⟨_,_,_,ys,e1,e2,e3,e4,e5,hx⟩:=h.I_ hu
   injection e1 with e1
   injection e1 with _ e1 e6
   omega
  have HC:=h_ k2
  have H1:=h_ k3
  have HH:=h_ h
  have HNL:=h_ hnl
  clear k2 k3 h hnl
  go_enter Tryz.func126,Tryz.ntmps126
  go_wp2_with (at_builtin;refine wpList_append_own _ rfl _ _ 49 rfl w.heap.size 55 i0 _ 3 32 hu hi hz0 hz1 hz2 rfl (by decide) _ _ _ rfl (World.ownsRow_made w #[] 0 (Nat.le_refl _) (Nat.zero_le _) rfl) q n m news rfl k1 ?qc2 H1.out ?qc4 ?qc5 ?qc6 ?_)
  case qc2=>
   intro j u hj
   rw[((Below.refl w.heap.size w).alloc (Nat.le_refl _) _).cell (by
    rw[Ps.add_block]
    refine k4 ?_
    have:=(List.getElem?_eq_some_iff.1 hj).1
    omega)]
   exact HC.out j u hj
  case qc4=>omega
  case qc5=>unfold reachBytes at hbd;omega
  case qc6=>simp
  intro v' w1 hown hgrow hnil
  have hown2:w1.ownsRow w.heap.size 55 3 v' n news:=by simpa using hown
  obtain⟨a',m',e1,hr⟩:=b5h hu hcl HH.out HC.out hown2 (by
   intro x hx
   obtain⟨y,_,rfl⟩:=List.mem_map.1 hx
   refine .inr ⟨_,rfl,fun z hz=>?_⟩
   simp only[List.mem_cons,List.not_mem_nil,or_false] at hz
   rcases hz with rfl|rfl|rfl<;>exact⟨_,rfl⟩)
  subst e1
  go_wp2
  go_ret
  refine⟨⟨a',m',by rw[HNL.out];rfl,fun w' hw'=>by rw[HNL.out];exact hr w' hw'⟩,((Below.refl _ w).alloc (Nat.le_refl _) _).grown hgrow (by simp) (by intro k hk;simp[Value.ownBlock] at hk;omega)⟩
theorem belowD(w:World)(k:Nat):Below w.heap.size w (w.drewN k):=⟨rfl,rfl,rfl,Nat.le_refl _,fun _ _=>rfl⟩
theorem bDA(w:World)(o:Obj):Below w.heap.size w ((w.alloc o).drew):=(d_ w o).trans ⟨rfl,rfl,rfl,Nat.le_refl _,fun _ _=>rfl⟩
theorem sDA(w:World)(o:Obj):((w.alloc o).drew).heap.size=w.heap.size+1:=by simp[World.drew,World.drewN]
theorem sA(w:World)(o:Obj):(w.alloc o).heap.size=w.heap.size+1:=by simp
theorem step0{w w5:World}(h:Below w.drew.heap.size w.drew w5):Below w.heap.size w w5:=(belowD w 1).trans h
theorem step1{w w5:World}{o:Obj}(h:Below ((w.alloc o).drew).heap.size ((w.alloc o).drew) w5):Below w.heap.size w w5:=(bDA w o).trans (h.mono (by rw[sDA];omega))
theorem step2{w w5:World}{o:Obj}(h:Below (w.alloc o).heap.size (w.alloc o) w5):Below w.heap.size w w5:=(d_ w o).trans (h.mono (d_ w o).size)
theorem c3a{w w5:World}{cs:List Value}{t:TypeId}(h:Below ((w.alloc (.cells cs.toArray t)).drew).heap.size ((w.alloc (.cells cs.toArray t)).drew) w5):Blk w5 w.heap.size cs t:=Blk.below (w:=(w.alloc (.cells cs.toArray t)).drew) (Blk.new w cs t) h
theorem c3e{w w5:World}{cs:List Value}{t:TypeId}(h:Below (w.alloc (.cells cs.toArray t)).heap.size (w.alloc (.cells cs.toArray t)) w5):Blk w5 w.heap.size cs t:=(Blk.new w cs t).below h
structure ClA(w wx:World)(tn:S)(L:List Col)(K:List Int)(g:Nat):Prop where
 blk:∃b1 q1 b2 q2,Blk wx g [.string ⟨tn.toArray⟩,.slice b1 L.length q1,.slice b2 K.length q2,.slice none 0 0,.slice none 0 0] 53 /\ ∀w':World,(∀b,w.heap.size<=b->b<wx.heap.size->b ≠ g->w'.heap[b]? = wx.heap[b]?)->CL w' L (.slice b1 L.length q1)/\IL w' K (.slice b2 K.length q2)
 lo:w.heap.size<=g
 bel:Below w.heap.size w wx
theorem ClA.set{w w6:World}{tn:S}{L:List Col}{K:List Int}{g:Nat}{cs:List Value}{a1 a2:Option Addr}{m1 m2 lo1 hi1 lo2 hi2:Nat}(h:Blk w6 g cs 53)(hl:cs.length=5)(hg:w.heap.size<=g)(hb:Below w.heap.size w w6)(h1:CF lo1 hi1 w6 L (.slice a1 L.length m1))(h2:IF lo2 hi2 w6 K (.slice a2 K.length m2))(e1:w.heap.size<=lo1)(e2:hi1<=w6.heap.size)(e3:g<lo1\/hi1<=g)(e4:w.heap.size<=lo2)(e5:hi2<=w6.heap.size)(e6:g<lo2\/hi2<=g) :
  ClA w (((((w6.setCell ⟨g,0,none⟩ (.string ⟨tn.toArray⟩)).setCell ⟨g,1,none⟩ (.slice a1 L.length m1)).setCell ⟨g,2,none⟩ (.slice a2 K.length m2)).setCell ⟨g,3,none⟩ (.slice none 0 0)).setCell ⟨g,4,none⟩ (.slice none 0 0)) tn L K g:=by
 have hW:=(((((Wr.start h).set 0 (.string ⟨tn.toArray⟩)).set 1 (.slice a1 L.length m1)).set 2 (.slice a2 K.length m2)).set 3 (.slice none 0 0)).set 4 (.slice none 0 0)
 obtain⟨c0,c1,c2,c3,c4,rfl⟩:∃c0 c1 c2 c3 c4,cs=[c0,c1,c2,c3,c4]:=by
  match cs,hl with
  |[c0,c1,c2,c3,c4],_=>exact⟨_,_,_,_,_,rfl⟩
 refine⟨⟨a1,m1,a2,m2,hW.blk,fun w' hw'=>⟨h1 w' fun b k1 k2=>?_,h2 w' fun b k1 k2=>?_⟩⟩,hg,hb.trans (hW.low.mono hg)⟩
 iterate 2
  ·exact(hw' b (by omega) (by rw[hW.size];omega) (by omega)).trans (hW.far b (by omega))
theorem ClA.new{w w6:World}{tn:S}{L:List Col}{K:List Int}{a1 a2:Option Addr}{m1 m2 lo1 hi1 lo2 hi2:Nat}(hb:Below w.heap.size w w6)(h1:CF lo1 hi1 w6 L (.slice a1 L.length m1))(h2:IF lo2 hi2 w6 K (.slice a2 K.length m2))(e1:w.heap.size<=lo1)(e2:hi1<=w6.heap.size)(e4:w.heap.size<=lo2)(e5:hi2<=w6.heap.size) :
  ClA w (w6.alloc (.cells #[.string ⟨tn.toArray⟩,.slice a1 L.length m1,.slice a2 K.length m2,.slice none 0 0,.slice none 0 0] 53)) tn L K w6.heap.size:=by
 refine⟨⟨a1,m1,a2,m2,Blk.new w6 _ _,fun w' hw'=>⟨h1 w' fun b k1 k2=>?_,h2 w' fun b k1 k2=>?_⟩⟩,hb.size,hb.alloc hb.size _⟩
 iterate 2
  ·exact(hw' b (by omega) (by rw[sA];omega) (by omega)).trans ((d_ w6 _).block b (by omega))
def FrB(lo hi:Nat)(w:World)(P:World->Prop):Prop:=∀w':World,(∀b,lo<=b->b<hi->w'.heap[b]? = w.heap[b]?)->P w'
theorem FrB.now{lo hi:Nat}{w:World}{P:World->Prop}(h:FrB lo hi w P):P w:=h w fun _ _ _=>rfl
theorem FrB.same{lo hi lo' hi':Nat}{w w':World}{P:World->Prop}(h:FrB lo hi w P)(hb:∀b,lo<=b->b<hi->w'.heap[b]? = w.heap[b]?)(h1:lo'<=lo)(h2:hi<=hi'):FrB lo' hi' w' P:=fun w2 h3=>h w2 fun b h4 h5=>(h3 b (by omega) (by omega)).trans (hb b h4 h5)
theorem FrB.below{lo hi n:Nat}{w w':World}{P:World->Prop}(h:FrB lo hi w P)(hb:Below n w w')(hn:hi<=n):FrB lo hi w' P:=h.same (fun b _ h2=>hb.block b (by omega)) (Nat.le_refl _) (Nat.le_refl _)
structure OwnG(e:TypeId)(sz B:Nat)(v:Value)(l:List C)(w:World):Prop where
 row:∃css:List (List Value),css.length=l.length/\(∀c∈css,c.length=sz)/\w.ownsRow B e sz v l.length css.flatten /\
  ∀k (h1:k<l.length) (h2:k<css.length),∀w':World,(∀b,B<=b->b<w.heap.size->v.ownBlock ≠ some b->w'.heap[b]? = w.heap[b]?)->Rp Tryz.prog w' e css[k] l[k]
theorem OwnG.nil(e:TypeId)(sz B:Nat)(w:World):OwnG e sz B (.slice none 0 0) [] w:=⟨[],rfl,(fun c hc=>absurd hc (by simp)),World.ownsRow_nil _ _ _ _,(fun k h=>absurd h (by simp))⟩
theorem OwnG.lt{e:TypeId}{sz B:Nat}{v:Value}{l:List C}{w:World}(h:OwnG e sz B v l w):∀g,v.ownBlock=some g->B<=g/\g<w.heap.size:=by
 obtain⟨css,_,_,h3,_⟩:=h.row
 exact h3.lt
theorem OwnG.below{e:TypeId}{sz B:Nat}{v:Value}{l:List C}{w w':World}(h:OwnG e sz B v l w)(hb:Below w.heap.size w w'):OwnG e sz B v l w':=by
 obtain⟨css,h1,h2,h3,h4⟩:=h.row
 exact⟨css,h1,h2,a0r h3 hb,fun k k1 k2 w2 hw2=>h4 k k1 k2 w2 fun b b1 b2 b3=>(hw2 b b1 (Nat.lt_of_lt_of_le b2 hb.size) b3).trans (hb.block b b2)⟩
theorem OwnG.same{e:TypeId}{sz B:Nat}{v:Value}{l:List C}{w w':World}(h:OwnG e sz B v l w)(hb:∀b,B<=b->w'.heap[b]? = w.heap[b]?)(hs:w'.heap.size=w.heap.size):OwnG e sz B v l w':=by
 obtain⟨css,h1,h2,h3,h4⟩:=h.row
 refine⟨css,h1,h2,⟨h3.1,?_⟩,fun k k1 k2 w2 hw2=>h4 k k1 k2 w2 fun b b1 b2 b3=>(hw2 b b1 (by omega) b3).trans (hb b b1)⟩
 rcases h3.2 with h0|⟨g,cap,cur,e,hg,hc,r⟩
 ·exact .inl h0
 ·exact .inr ⟨g,cap,cur,e,hg,(hb g hg).trans hc,r⟩
theorem OwnG.snoc{e:TypeId}{sz B lo hi:Nat}{v v':Value}{l:List C}{x:C}{cs:List Value}{w w':World}{css:List (List Value)}(hl:css.length=l.length)(hc:∀c∈css,c.length=sz)(hcs:cs.length=sz)(he:∀k (h1:k<l.length) (h2:k<css.length),∀w':World,(∀b,B<=b->b<w.heap.size->v.ownBlock ≠ some b->w'.heap[b]? = w.heap[b]?)->Rp Tryz.prog w' e css[k] l[k])(hx:FrB lo hi w fun w'=>Rp Tryz.prog w' e cs x)(hlo:B<=lo)(hhi:hi<=w.heap.size)(hv:∀g,v.ownBlock=some g->g<lo\/hi<=g)(hr:w'.ownsRow B e sz v' (l.length+1) (css.flatten++cs))(hg:w.grownBy w' v.ownBlock)(ha:v'.ownBlock=v.ownBlock\/v'.ownBlock=some w.heap.size):OwnG e sz B v' (l++[x]) w':=by
 have keep:∀b,b<w.heap.size->v.ownBlock ≠ some b->w'.heap[b]? = w.heap[b]? := fun b h1 h2=>hg.block b h1 (fun e=>h2 e.symm)
 have size:w.heap.size<=w'.heap.size:=hg.size
 refine⟨css++[cs],by simp[hl],fun c hc'=>?_,?_,fun k k1 k2 w2 hw2=>?_⟩
 ·rcases List.mem_append.1 hc' with h|h
  ·exact hc c h
  ·obtain rfl:=List.mem_singleton.1 h;exact hcs
 ·rw[List.length_append,List.flatten_append]
  simpa using hr
 ·have hw3:∀b,B<=b->b<w.heap.size->v.ownBlock ≠ some b->w2.heap[b]? = w.heap[b]? := fun b b1 b2 b3=>(hw2 b b1 (by omega) (by
   rcases ha with h|h
   ·rw[h];exact b3
   ·rw[h];intro e;injection e with e;omega)).trans (keep b b2 b3)
  by_cases hk:k<l.length
  ·rw[List.getElem_append_left hk,List.getElem_append_left (by omega)]
   exact he k hk (by omega) w2 hw3
  ·have hk2:k=l.length:=by simp at k1;omega
   subst hk2
   rw[List.getElem_append_right (Nat.le_refl _),List.getElem_append_right (by omega)]
   simp only[hl,Nat.sub_self,List.getElem_singleton]
   exact hx w2 fun b b1 b2=>hw3 b (by omega) (by omega) (fun e=>by have:=hv b e;omega)
theorem c0k{sz:Nat}:∀(css:List (List Value)) (i j:Nat) (hi:i<css.length),(∀c∈css,c.length=sz)->j<sz->css.flatten[i*sz+j]? = css[i][j]? := by
 intro css
 induction css with
 |nil=>intro i j hi;simp at hi
 |cons c css ih=>
  intro i j hi hall hj
  have hc7:=hall c (by simp)
  cases i with
  |zero=>rw[List.flatten_cons,List.getElem?_append_left (by omega)];simp
  |succ i=>
   rw[List.flatten_cons,List.getElem?_append_right (by rw[Nat.succ_mul];omega),hc7,show(i+1)*sz+j - sz=i*sz+j by rw[Nat.succ_mul];omega,List.getElem_cons_succ]
   exact ih i j (by simpa using hi) (fun c hc=>hall c (List.mem_cons_of_mem _ hc)) hj
theorem OwnG.done{t e:TypeId}{sz B:Nat}{v:Value}{l:List C}{w:World}(hu:Tryz.prog.underlying t=some (.slice e))(hz:Tryz.prog.cellsOf e=sz)(hby:l.length*Tryz.prog.bytesOf e<=reachBytes)(h:OwnG e sz B v l w) :
  (∃a c,v=.slice a l.length c)/\FrB B w.heap.size w fun w'=>Rp Tryz.prog w' t [v] (.s l):=by
 obtain⟨css,h1,h2,h3,h4⟩:=h.row
 rcases h3.2 with⟨rfl,h0⟩|⟨g,cap,cur,rfl,hg,hc,hcap,hm,hs,ht⟩
 ·have hl0:l=[]:=List.eq_nil_of_length_eq_zero h0
  subst hl0
  exact⟨⟨_,_,rfl⟩,fun w' _=>Rp.nil hu⟩
 ·refine⟨⟨_,_,rfl⟩,fun w' hw'=>?_⟩
  have hlt:g<w.heap.size:=(Array.getElem?_eq_some_iff.1 hc).1
  have hg':w'.heap[g]? = some (.cells cur e (0,0)):=(hw' g hg hlt).trans hc
  refine Rp.slice (fun i=>css.getD i []) hu hcap hm rfl hby ?_ ?_
  ·intro i hi
   rw[hz]
   have hi2:i<css.length:=by omega
   rw[List.getD_eq_getElem?_getD,List.getElem?_eq_getElem hi2,Option.getD_some]
   refine World.cells?_of_each (Nat.zero_le _) (h2 _ (List.getElem_mem hi2)) fun j hj=>?_
   have e5:((⟨g,0,none⟩:Addr).add (i*sz)).add j=⟨g,i*sz+j,none⟩:=by rw[Addr.add_lit,Addr.add_lit];simp
   have hij:i*sz+j<l.length*sz:=by
    have:(i+1)*sz<=l.length*sz:=Nat.mul_le_mul_right _ hi
    rw[Nat.succ_mul] at this
    omega
   rw[e5,cell_of_row w' g (i*sz+j) cur e (0,0) hg',<-c0k css i j hi2 h2 hj,<-ht,List.getElem?_take,if_pos hij]
   simp
  ·intro i hi
   have hi2:i<css.length:=by omega
   rw[List.getD_eq_getElem?_getD,List.getElem?_eq_getElem hi2,Option.getD_some]
   exact h4 i hi hi2 w' fun b b1 b2 _=>hw' b b1 b2
theorem a4q{ops:Array Oper}{rest:List Oper}{o:Oper}{a:Act}{w:World}{Q:Exit->Act->World->Prop}(hgd:o.guard=none)(s x:Operand)(t e:TypeId)(ho:o.op=.call {callee:=.builtin .append,args:=#[s,x],argTypes:=#[t,t]})(i:TypeInfo)(z:Value)(size bytes B:Nat)(ht:Tryz.prog.underlying t=some (.slice e))(hi:Tryz.prog.info? e=some i)(hz:i.zero=some z)(hsize:i.size=size)(hby:i.bytes=bytes)(hzs:z.cells.size=size)(hsz:0<size)(hcl:Tryz.prog.cellsOf e=size)(hbl:Tryz.prog.bytesOf e=bytes)(v:Value)(hs:a.eval s=v)(hown:w.ownsRow B e size v 0 [])(hbase:B<=w.heap.size)(q:Option Addr)(n m:Nat)(hx:a.eval x=.slice q n m)(xs:List C)(h:Rp Tryz.prog w t [.slice q n m] (.s xs))(hel:∀x∈xs,a6v x)(hk:∀(a':Option Addr) (m':Nat) (w':World),(∀w2:World,(∀b,B<=b->b<w'.heap.size->w2.heap[b]? = w'.heap[b]?)->Rp Tryz.prog w2 t [.slice a' n m'] (.s xs))->w.grownBy w' v.ownBlock->wpList Tryz.prog ops Q rest (a.put o.dst (.slice a' n m')) w'):wpList Tryz.prog ops Q (o::rest) a w:=by
 cases q with
 |none=>
  obtain⟨h0,hxs⟩:n=0/\xs=[]:=by
   cases h with
   |nil _=>exact⟨rfl,rfl⟩
  subst h0 hxs
  obtain⟨A,k,c,rfl⟩:=a4K hown
  obtain rfl:=a8j hown
  have hsrc:Src Tryz.prog i.size t (.slice none 0 m) 0 [] w:=Src.ofNil w ht m
  refine wpList_plain hgd fun K hK=>?_
  have hr:=run_append_nothing (P:=Tryz.prog) w t t o.type e i ht hi A 0 c (Nat.zero_le _) _ hsrc
  unfold Oper.wp execOp
  simp only[ho,resolve,invoke,builtin,Sem.run_bind,Sem.run_pure,Result.andThen_ok,List.map_toArray,List.map_cons,List.map_nil,hs,hx,hr]
  refine hK _ _ (hk A c w (fun w2 hw2=>?_) (World.grownBy.refl w _))
  rcases hown.2 with⟨e1,_⟩|⟨g,cap,cur,e1,hg,hc,hcap,hmm,hsz2,_⟩
  ·injection e1 with e1 _ e2
   subst e1 e2
   exact Rp.nil ht
  ·injection e1 with e1 _ e2
   subst e1 e2
   exact Rp.slice (fun _=>[]) ht hcap hmm rfl (by simp) (fun i hi=>absurd hi (by omega)) (fun i hi=>absurd hi (by simp))
 |some q=>
  obtain⟨news,k1,k2,k3,k4⟩:=Ps.Rp.news ht h
  have hbd:=h.bound ht
  rw[hcl] at k1
  rw[hbl] at hbd
  have hml:n<=maxLen:=by
   obtain⟨_,_,_,ys,e1,e2,e3,e4,e5,hx⟩:=h.I_ ht
   injection e1 with e1
   injection e1 with _ e1 e6
   omega
  refine wpList_append_own_at w hgd s x t ho B e i z size bytes ht hi hz hsize hby hzs hsz v 0 [] hs hown q n m news hx k1 k2 k3 (by omega) (by rw[Nat.zero_add];unfold reachBytes at hbd;omega) hbase fun v' w' h1 h2 _ _=>?_
  have hown2:w'.ownsRow B e size v' n news:=by simpa using h1
  obtain⟨a',m',rfl,hr⟩:=b5h ht hcl h k2 hown2 hel
  exact hk a' m' w' hr h2
end Go.Proofs.YtlimlmjljjmcpaaGreatDoor.Px
