import Derived.Test.YtlimlmjljjmcpaaGreatDoorTkX
import Derived.Test.YtlimlmjljjmcpaaGreatDoorTmX
namespace Go.Proofs.YtlimlmjljjmcpaaGreatDoor.Px
open Go Go.RowKit Go.Proofs.YtlimlmjljjmcpaaGreatDoor.Ps
set_option linter.unusedVariables false
set_option linter.unusedSimpArgs false
structure Cl(T:TypeId)(lo B:Nat)(w1 wr:World)(g:Nat)(f:Value->List Value)(e:TypeId)(sz:Nat)(v:Value)(l:List C)(P:World->Prop):Prop where
 blk:Blk wr g (f v) T
 own:OwnG e sz B v l wr
 fr:∀w':World,(∀b,lo<=b->b<B->b ≠ g->w'.heap[b]? = wr.heap[b]?)->P w'
 bel:Below lo w1 wr
 glo:lo<=g
 ghi:g<B
 hB:B<=wr.heap.size
theorem Cl.below{T:TypeId}{lo B:Nat}{w1 wr w':World}{g:Nat}{f:Value->List Value}{e:TypeId}{sz:Nat}{v:Value}{l:List C}{P:World->Prop}(h:Cl T lo B w1 wr g f e sz v l P)(hb:Below wr.heap.size wr w'):Cl T lo B w1 w' g f e sz v l P:=by
 have h1:=h.glo
 have h2:=h.ghi
 have h3:=h.hB
 exact⟨h.blk.below hb,h.own.below hb,fun w2 hw2=>h.fr w2 fun b b1 b2 b3=>(hw2 b b1 b2 b3).trans (hb.block b (by omega)),h.bel.trans (hb.mono (by omega)),h1,h2,Nat.le_trans h3 hb.size⟩
theorem Cl.push{T:TypeId}{lo B lo2 hi2:Nat}{w1 w8 wA w9:World}{g j:Nat}{f:Value->List Value}{e:TypeId}{sz:Nat}{v v':Value}{l:List C}{x:C}{cs:List Value}{css:List (List Value)}{P:World->Prop}(h:Cl T lo B w1 w8 g f e sz v l P)(hl:css.length=l.length)(hc:∀c∈css,c.length=sz)(he:∀k (h1:k<l.length) (h2:k<css.length),∀w':World,(∀b,B<=b->b<w8.heap.size->v.ownBlock ≠ some b->w'.heap[b]? = w8.heap[b]?)->Rp Tryz.prog w' e css[k] l[k])(hA:Below w8.heap.size w8 wA)(hcs:cs.length=sz)(hx:FrB lo2 hi2 wA fun w'=>Rp Tryz.prog w' e cs x)(h1:B<=lo2)(h2:hi2<=wA.heap.size)(hv:∀q,v.ownBlock=some q->q<lo2)(hr:w9.ownsRow B e sz v' (l.length+1) (css.flatten++cs))(hg:wA.grownBy w9 v.ownBlock)(ha:v'.ownBlock=v.ownBlock\/v'.ownBlock=some wA.heap.size)(hf:(f v).set j v'=f v') :
  Blk w9 g (f v) T/\Cl T lo B w1 (w9.setCell ⟨g,j,none⟩ v') g f e sz v' (l++[x]) P:=by
 have g1:=h.glo
 have g2:=h.ghi
 have g3:=h.hB
 have hs1:w8.heap.size<=wA.heap.size:=hA.size
 have hs2:wA.heap.size<=w9.heap.size:=hg.size
 have hov:∀q,v.ownBlock=some q->B<=q/\q<w8.heap.size:=h.own.lt
 have hne:∀b,b<B->v.ownBlock ≠ some b:=fun b hb e=>by have:=hov b e;omega
 have keep:∀b,b<B->w9.heap[b]? = w8.heap[b]? := fun b hb=>(hg.block b (by omega) (fun e=>hne b hb e.symm)).trans (hA.block b (by omega))
 have hB9:Blk w9 g (f v) T:=(keep g g2).trans h.blk
 have hS:=(Wr.start hB9).set j v'
 rw[hf] at hS
 have hown:OwnG e sz B v' (l++[x]) w9:=OwnG.snoc hl hc hcs (fun k k1 k2 w' hw'=>he k k1 k2 w' fun b b1 b2 b3=>(hw' b b1 (by omega) b3).trans (hA.block b b2)) hx h1 h2 (fun q e=>.inl (hv q e)) hr hg ha
 refine⟨hB9,hS.blk,hown.same (fun b hb=>hS.far b (by omega)) hS.size,fun w' hw'=>h.fr w' fun b b1 b2 b3=>((hw' b b1 b2 b3).trans (hS.far b b3)).trans (keep b b2),?_,g1,g2,?_⟩
 ·have hb9:Below lo w1 w9:=(h.bel.trans (hA.mono (by omega))).grown hg (by have:=h.bel.size;omega) (fun q e=>by have:=(hov q e).1;omega)
  exact hb9.trans (hS.low.mono g1)
 ·rw[hS.size];omega
theorem OwnG.form{e:TypeId}{sz B:Nat}{v:Value}{l:List C}{w:World}(h:OwnG e sz B v l w):∃a c,v=.slice a l.length c:=by
 obtain⟨css,_,_,h3,_⟩:=h.row
 obtain⟨A,m,c,rfl⟩:=a4K h3
 obtain rfl:=a8j h3
 exact⟨_,_,rfl⟩
theorem Cl.done{T t:TypeId}{lo B:Nat}{w1 wr:World}{g:Nat}{f:Value->List Value}{e:TypeId}{sz:Nat}{v:Value}{l:List C}{P:World->Prop}(h:Cl T lo B w1 wr g f e sz v l P)(hu:Tryz.prog.underlying t=some (.slice e))(hz:Tryz.prog.cellsOf e=sz)(hby:l.length*Tryz.prog.bytesOf e<=reachBytes) :
  (∃a c,v=.slice a l.length c) /\ ∀w':World,(∀b,lo<=b->b<wr.heap.size->b ≠ g->w'.heap[b]? = wr.heap[b]?)->P w'/\Rp Tryz.prog w' t [v] (.s l):=by
 have g1:=h.glo
 have g2:=h.ghi
 have g3:=h.hB
 obtain⟨h1,h2⟩:=h.own.done hu hz hby
 exact⟨h1,fun w' hw'=>⟨h.fr w' fun b b1 b2 b3=>hw' b b1 (by omega) b3,h2 w' fun b b1 b2=>hw' b (by omega) b2 (by omega)⟩⟩
theorem Cl.start{T:TypeId}{lo B:Nat}{w1 wr:World}{g:Nat}{f:Value->List Value}{e:TypeId}{sz:Nat}{P:World->Prop}(hb:Blk wr g (f (.slice none 0 0)) T)(hf:∀w':World,(∀b,lo<=b->b<wr.heap.size->b ≠ g->w'.heap[b]? = wr.heap[b]?)->P w')(hbel:Below lo w1 wr)(hg:lo<=g)(hB:B=wr.heap.size):Cl T lo B w1 wr g f e sz (.slice none 0 0) [] P:=by
 subst hB
 exact⟨hb,OwnG.nil _ _ _ _,hf,hbel,hg,hb.lt,Nat.le_refl _⟩
def a3m:List (TypeId × Nat × Nat):=[(50,0,1),(9,1,1)]
theorem b2S:∀j,j<2 -> ∃i,∃h:i<a3m.length,a3m[i].2.1<=j/\j<a3m[i].2.1+a3m[i].2.2
 |0,_=>⟨0,by decide,by decide,by decide⟩
 |1,_=>⟨1,by decide,by decide,by decide⟩
 |j+2,h=>absurd h (by omega)
theorem c1o(w:World)(F:Fkey)(v:Value)(h:IL w F.cols v)(hs:F.tb.length<=maxLen):Rp Tryz.prog w 122 [v,.string ⟨F.tb.toArray⟩] (a2s F):=
 a4T a3m Tryz.underlying122 a0g rfl (by kernel_rfl) b2S ⟨h,Rp.string Tryz.underlying9 (by simpa[ByteArray.size] using hs),trivial⟩
theorem FL.get{w:World}{l:List Fkey}{a:Option Addr}{n m k:Nat}(h:FL w l (.slice a n m))(hk:k<n):∃g o,a=some ⟨g,o,none⟩ /\ ∃hx:k<l.length,∃b c,EC w g (o+k*2) [.slice b l[k].cols.length c,.string ⟨l[k].tb.toArray⟩]/\IL w l[k].cols (.slice b l[k].cols.length c)/\l[k].tb.length<=maxLen:=by
 obtain⟨g,o,e,hx,b,c,h1,h2⟩:=h.at_ hk
 refine⟨g,o,e,hx,b,c,h1,h2,?_⟩
 obtain⟨g',o',us,e',hc,hx',hr⟩:=b6G Tryz.underlying51 a0g (by omega) h hk
 rw[List.getElem_map] at hr
 obtain⟨_,_,_,x0,s,rfl,e2,_,_,hs⟩:=a0A hr
 unfold a2s at e2
 injection e2 with e2
 injection e2 with _ e2
 injection e2 with e2 _
 injection e2 with e2
 unfold S_ at e2
 injection e2 with e2
 rw[<-e2] at hs
 simpa[ByteArray.size] using hs
def b6N(w:World)(tn:S)(L:List Col)(K:List Int)(Fs:List Fkey)(e:Ending)(w':World):Prop:=
 (∃b1 q1 b2 q2 b3 q3 b4 n4 q4,e=.returned (.agg #[.string ⟨tn.toArray⟩,.slice b1 L.length q1,.slice b2 K.length q2,.slice b3 Fs.length q3,.slice b4 n4 q4]) /\
  FrB w.heap.size w'.heap.size w' fun w2=>CL w2 L (.slice b1 L.length q1)/\IL w2 K (.slice b2 K.length q2)/\FL w2 Fs (.slice b3 Fs.length q3))/\Below w.heap.size w w'
theorem CF.below{lo hi n:Nat}{w w':World}{l:List Col}{v:Value}(h:CF lo hi w l v)(hb:Below n w w')(hn:hi<=n):CF lo hi w' l v:=fun w2 h3=>h w2 fun b h4 h5=>(h3 b h4 h5).trans (hb.block b (by omega))
theorem IF.below{lo hi n:Nat}{w w':World}{l:List Int}{v:Value}(h:IF lo hi w l v)(hb:Below n w w')(hn:hi<=n):IF lo hi w' l v:=fun w2 h3=>h w2 fun b h4 h5=>(h3 b h4 h5).trans (hb.block b (by omega))
theorem a7Q:(Tryz.prog.info? 122).map (fun i=>(i.zero,i.size,i.bytes))=some (some (.agg #[.slice none 0 0,.string ⟨#[]⟩]),2,40):=by kernel_rfl
theorem b6O{l:List Fkey}{k:Nat}(h:k<l.length):(l.take (k+1)).map a2s=(l.take k).map a2s++[a2s l[k]]:=by
 rw[List.take_succ_eq_append_getElem h,List.map_append]
 rfl
theorem b6L(f:X->X){l:List X}{k:Nat}(h:k<l.length):(l.take (k+1)).map (fun x=>toC (f x))=(l.take k).map (fun x=>toC (f x))++[toC (f l[k])]:=by
 rw[List.take_succ_eq_append_getElem h,List.map_append]
 rfl
end Go.Proofs.YtlimlmjljjmcpaaGreatDoor.Px
