import Derived.Test.YtlimlmjljjmcpaaGreatDoorPxA
import Derived.Test.YtlimlmjljjmcpaaGreatDoorPxB
import Derived.Test.YtlimlmjljjmcpaaGreatDoorGrA
set_option maxHeartbeats 20000000
set_option maxRecDepth 100000
namespace Go.Proofs.YtlimlmjljjmcpaaGreatDoor.Px
open Go Go.RowKit Go.Proofs.YtlimlmjljjmcpaaGreatDoor.Ps
set_option linter.unusedVariables false
set_option linter.unusedSimpArgs false
mutual
def D_:X->Prop
 |.mk _ _ _ _ vs nm l=>(vs.length<4294967281/\nm.length<4294967281)/\a0M l
def a0M:List X->Prop
 |[]=>True
 |x::l=>D_ x/\a0M l
end
theorem a1V{x:X}:∀ {l:List X},a0M l->x∈l->D_ x
 |y::l,h,hm=>by
  rw[a0M] at h
  rcases List.mem_cons.1 hm with rfl|hm
  ·exact h.1
  ·exact a1V h.2 hm
def a5y(r:Bool)(x:X):Bool:=pOk x && !(r&&(!decide (x.op=3) || !nameB x.nm))
theorem b6o(r:Bool)(l:List X):a5G r l=l.all (a5y r):=a6t
theorem b6s{r:Bool}{l:List X}{k:Nat}(h:k<l.length)(h1:a5G r (l.take k)=true)(h2:a5y r l[k]=true):a5G r (l.take (k+1))=true:=by
 rw[b6o] at h1 |-
 rw[List.take_succ_eq_append_getElem h,List.all_append,h1,List.all_cons,h2]
 rfl
theorem b1U{r:Bool}{l:List X}{k:Nat}(h:k<l.length)(h2:a5y r l[k]=false):a5G r l=false:=by
 rw[b6o]
 exact Bool.eq_false_iff.2 fun hh=>by
  have:=List.all_eq_true.1 hh _ (List.getElem_mem h)
  rw[h2] at this
  cases this
theorem b6n(op int vk vi:Int)(vs nm:S)(l:List X):pOk (.mk op int vk vi vs nm l)=(a0D op l.length&&(a5G (decide (op=25)) l&&a0o op int vk vi vs nm)):=by rw[pOk]
theorem a5U{w:World}{g k n:Nat}{u:Value}{cs:List Value}{t:TypeId}{K:World->Prop}(hb:Blk w g cs t)(hn:n<=g)(h:∀w',Blk w' g (cs.set k u) t->Below n w w'->K w'):K (w.setCell ⟨g,k,none⟩ u):=
 h _ (hb.set k u) ⟨rfl,rfl,rfl,by simp[World.setCell],fun i hi=>Below.heap_setCell w _ u i (by show i ≠ g;omega)⟩
theorem b7n{ops:Array Oper}{rest:List Oper}{o:Oper}{a:Act}{Q:Exit->Act->World->Prop}{w:World}{g n:Nat}{cs:List Value}{t:TypeId}(hb:Blk w g cs t)(h5:5<=cs.length)(hn:n<=g)(hg:o.guard=none)(x y:Operand)(ho:o.op=.store 23 x y)(c0 c1 c2:Value)(hx:a.eval x=.pointer (some ⟨g,2,none⟩))(hy:a.eval y=.agg #[c0,c1,c2])(h1:(#[c0,c1,c2]:Array Value).all (·.oneCell')=true)(h:∀w',Blk w' g (((cs.set 2 c0).set 3 c1).set 4 c2) t->Below n w w'->wpList Tryz.prog ops Q rest (a.put o.dst undef) w'):wpList Tryz.prog ops Q (o::rest) a w:=by
 refine wpList_store_mid hg 23 x y ho g 2 #[c0,c1,c2] hx hy (fun j hj=>⟨?_,hb.free _⟩) (by kernel_rfl) h1 ?_
 ·have hj':j<3:=hj
  rw[hb.cell (2+j) (List.getElem?_eq_getElem (by omega))]
  rfl
 ·show wpList Tryz.prog ops Q rest (a.put o.dst undef) (((w.setCell ⟨g,2,none⟩ c0).setCell ⟨g,3,none⟩ c1).setCell ⟨g,4,none⟩ c2)
  refine a5U (K:=fun w'=>wpList Tryz.prog ops Q rest (a.put o.dst undef) ((w'.setCell ⟨g,3,none⟩ c1).setCell ⟨g,4,none⟩ c2)) hb hn fun w1 h1 b1=>?_
  refine a5U (K:=fun w'=>wpList Tryz.prog ops Q rest (a.put o.dst undef) (w'.setCell ⟨g,4,none⟩ c2)) h1 hn fun w2 h2 b2=>?_
  refine a5U (K:=fun w'=>wpList Tryz.prog ops Q rest (a.put o.dst undef) w') h2 hn fun w3 h3 b3=>?_
  exact h _ h3 ((b1.trans b2).trans b3)
theorem Blk.low{w w':World}{g n:Nat}{cs:List Value}{t:TypeId}(h:Blk w g cs t)(hb:Below n w w')(hg:g<n):Blk w' g cs t:=(hb.block _ hg).trans h
theorem a7r{w:World}{g k n:Nat}{u:Value}(hn:n<=g):Below n w (w.setCell ⟨g,k,none⟩ u):=
 ⟨rfl,rfl,rfl,by simp[World.setCell],fun i hi=>Below.heap_setCell w _ u i (by show i ≠ g;omega)⟩
structure JS(w3:World)(g k s:Nat)(u:Value)(cs:List Value)(d:Array Bool)(w':World):Prop where
 low:Below g w3 w'
 blk:∃c:Value,Blk w' g (cs.set k c) 26/\(d[s]? = some true->c=u)
theorem JS.keep{w3:World}{g k s:Nat}{u:Value}{cs:List Value}{d:Array Bool}{w':World}(h:JS w3 g k s u cs d w')(i:Nat)(h1:i ≠ s):JS w3 g k s u cs (d.setIfInBounds i true) w':=by
 obtain⟨c,hb,a1⟩:=h.blk
 refine⟨h.low,c,hb,?_⟩
 rw[Array.getElem?_setIfInBounds_ne h1];exact a1
theorem JS.grow{w3:World}{g k s:Nat}{u:Value}{cs:List Value}{d:Array Bool}{w' w'':World}(h:JS w3 g k s u cs d w')(hb:Below w'.heap.size w' w''):JS w3 g k s u cs d w'':=by
 obtain⟨c,hb5,a1⟩:=h.blk
 exact⟨h.low.trans (hb.mono (Nat.le_of_lt hb5.lt)),c,hb5.below hb,a1⟩
theorem JS.put{w3:World}{g k s:Nat}{u:Value}{cs:List Value}{d:Array Bool}{w':World}(h:JS w3 g k s u cs d w'):JS w3 g k s u cs (d.setIfInBounds s true) (w'.setCell ⟨g,k,none⟩ u):=by
 obtain⟨c,hb5,a1⟩:=h.blk
 refine⟨h.low.trans (a7r (Nat.le_refl _)),u,?_,fun _=>rfl⟩
 have:=hb5.set k u
 rwa [List.set_set] at this
structure J26(w3:World)(g:Nat)(int:Int)(nm:S)(d:Array Bool)(w':World):Prop where
 low:Below g w3 w'
 blk:∃c1 c5:Value,Blk w' g [.int .i64 26,c1,.int .i64 0,.int .i64 0,.string ⟨#[]⟩,c5,.slice none 0 0] 26/\(d[14]? = some true->c5=.string ⟨nm.toArray⟩)/\(d[16]? = some true->c1=.int .i64 int)
theorem J26.keep{w3:World}{g:Nat}{int:Int}{nm:S}{d:Array Bool}{w':World}(h:J26 w3 g int nm d w')(i:Nat)(h1:i ≠ 14)(h2:i ≠ 16):J26 w3 g int nm (d.setIfInBounds i true) w':=by
 obtain⟨c1,c5,hb,a1,a2⟩:=h.blk
 refine⟨h.low,c1,c5,hb,?_,?_⟩
 ·rw[Array.getElem?_setIfInBounds_ne h1];exact a1
 ·rw[Array.getElem?_setIfInBounds_ne h2];exact a2
theorem J26.grow{w3:World}{g:Nat}{int:Int}{nm:S}{d:Array Bool}{w' w'':World}(h:J26 w3 g int nm d w')(hb:Below w'.heap.size w' w''):J26 w3 g int nm d w'':=by
 obtain⟨c1,c5,hb5,a1,a2⟩:=h.blk
 exact⟨h.low.trans (hb.mono (Nat.le_of_lt hb5.lt)),c1,c5,hb5.below hb,a1,a2⟩
theorem J26.b8R{w3:World}{g:Nat}{int:Int}{nm:S}{d:Array Bool}{w':World}(h:J26 w3 g int nm d w'):J26 w3 g int nm (d.setIfInBounds 14 true) (w'.setCell ⟨g,5,none⟩ (.string ⟨nm.toArray⟩)):=by
 obtain⟨c1,c5,hb5,a1,a2⟩:=h.blk
 refine⟨h.low.trans (a7r (Nat.le_refl _)),c1,_,hb5.set 5 _,fun _=>rfl,?_⟩
 rw[Array.getElem?_setIfInBounds_ne (by decide)];exact a2
theorem J26.intIn{w3:World}{g:Nat}{int:Int}{nm:S}{d:Array Bool}{w':World}(h:J26 w3 g int nm d w'):J26 w3 g int nm (d.setIfInBounds 16 true) (w'.setCell ⟨g,1,none⟩ (.int .i64 int)):=by
 obtain⟨c1,c5,hb5,a1,a2⟩:=h.blk
 refine⟨h.low.trans (a7r (Nat.le_refl _)),_,c5,hb5.set 1 _,?_,fun _=>rfl⟩
 rw[Array.getElem?_setIfInBounds_ne (by decide)];exact a1
theorem a9T(N:Nat)(hN:N<=1152921504606846976)(HI:∀(x:X) (cs:List Value) (w:World),nodes x<=N->D_ x->Env w->XR w x cs->Calls Tryz.prog 25 #[.agg cs.toArray] w (Ret w (.bool (pOk x))))(int vk vi:Int)(vs nm:S)(l:List X)(cs:List Value)(w:World)(hn:j_ l<=N)(hsh:vs.length<4294967281/\nm.length<4294967281)(hshl:a0M l)(hE:Env w)(h:XR w (.mk 25 int vk vi vs nm l) cs) :
  Calls Tryz.prog 25 #[.agg cs.toArray] w (Ret w (.bool (pOk (.mk 25 int vk vi vs nm l)))):=by
 have HI:=h_ HI
 have HE:=h_ hE
 have HSH:=h_ hshl
 have HPD:=h_ (b6n 25 int vk vi vs nm l)
 have hem:=mkE vs
 have hemn:=mkE nm
 obtain⟨a,m,rfl,hl,hvs,hnm,hlen⟩:=h.lits
 have HL:=h_ hl
 have HVS:Hid (vs.length<=140737488351232):=h_ (by omega)
 clear h hl hE hshl
 have er:decide ((25:Int)=25)=true:=rfl
 rw[er] at HPD
 clear er
 generalize pOk (.mk 25 int vk vi vs nm l)=ANS at HPD |-
 go_enter Tryz.func25,Tryz.ntmps25
 go_upto_region 1 with(fail)
 refine nA fun w1 hB hw1 hz1=>?_
 have HW:=h_ hw1
 have HBk:=h_ hB
 have p0:=hB.cell 0 rfl
 have p6:=hB.cell 6 rfl
 clear hB hw1
 go_wp2_with fail
 refine(a4G 25 l.length w1).mono ?_
 rintro e w2 ⟨rfl,hw2⟩
 have HB2:=h_ (HBk.out.below hw2)
 have HW2:=t_ HW hw2
 clear hw2 p0 p6 HBk HW
 cases ha:a0D 25 l.length with
 |false=>
  go_wp2_with fail
  go_ret
  exact⟨by rw[HPD.out,ha];rfl,HW2.out⟩
 |true=>
  have HPK:Hid (ANS=(a5G true l&&a0o 25 int vk vi vs nm)):=h_ (by rw[HPD.out,ha];rfl)
  clear HPD ha
  have p6:=HB2.out.cell 6 rfl
  go_upto_region 9 with(fail)
  clear p6
  go_loopw [17] (fun i wr=>∃k:Nat,k<=l.length/\i=.int .i64 (k:Int)/\a5G true (l.take k)=true/\Below w2.heap.size w2 wr) (fun i _=>l.length - (intOf i).toNat)
  case atStart=>exact⟨0,Nat.zero_le _,rfl,rfl,Below.refl _ _⟩
  case round=>
   obtain⟨k,hk,rfl,ht,hb⟩:=hrel
   have HT:=h_ ht
   clear ht
   by_cases hlt:k<l.length
   ·have hwb:=HW2.out.trans (hb.mono HW2.out.size)
    obtain⟨g,o,us,eq,hgl,hcell,hkx,hrx⟩:=HL.out.at_ hlt
    subst eq
    have HX:=h_ hrx
    obtain⟨eop,eint,evk,evi,evs,enm,el,ee⟩:∃eop eint evk evi evs enm el,l[k]=X.mk eop eint evk evi evs enm el:=by
     cases l[k]
     exact⟨_,_,_,_,_,_,_,rfl⟩
    rw[ee] at hrx
    obtain⟨ea,em,rfl,_⟩:=hrx.lits
    have rr:∀j (u:Value),([.int .i64 eop,.int .i64 eint,.int .i64 evk,.int .i64 evi,.string ⟨evs.toArray⟩,.string ⟨enm.toArray⟩,.slice ea el.length em]:List Value)[j]? = some u->wr.cell? ⟨g,o+k*7+j,none⟩=some u:=fun j u hu=>(hwb.cell (by exact hgl)).trans (hcell j u hu)
    have r0:=rr 0 _ rfl
    have r1:=rr 1 _ rfl
    have r2:=rr 2 _ rfl
    have r3:=rr 3 _ rfl
    have r4:=rr 4 _ rfl
    have r5:=rr 5 _ rfl
    have r6:=rr 6 _ rfl
    simp only[Nat.add_zero] at r0
    have EE:=h_ ee
    have c2:(k:Int)<(l.length:Int):=by omega
    have c3:(0:Int)<=(k:Int):=by omega
    have d1:decide ((k:Int)<(l.length:Int))=true:=decide_eq_true c2
    have gl:g<wr.heap.size:=by have:=hwb.size;omega
    have HWB:=h_ hwb
    clear rr hcell hrx ee
    have hle:=M_ (List.getElem_mem (l:=l) hlt)
    have hsx:=a1V HSH.out (List.getElem_mem (l:=l) hlt)
    have HB:=h_ hb
    clear hb hwb
    go_wp2_with fail
    refine(HI.out l[k] _ _ (by omega) hsx (HE.out.below (HWB.out.trans ((d_ wr _).mono HWB.out.size))) (HX.out.kept (HWB.out.trans ((d_ wr _).mono HWB.out.size)) (Nat.le_refl _))).mono ?_
    rintro e' w4 ⟨rfl,hw4⟩
    have HB4:=h_ ((HB.out.trans ((d_ wr _).mono HB.out.size)).trans (hw4.mono (by have:=HB.out.size;simp;omega)))
    have HW4:=h_ (HW2.out.trans (HB4.out.mono HW2.out.size))
    have hX4:Blk w4 wr.heap.size [.int .i64 eop,.int .i64 eint,.int .i64 evk,.int .i64 evi,.string ⟨evs.toArray⟩,.string ⟨enm.toArray⟩,.slice ea el.length em] 26:=(Blk.new wr _ _).below hw4
    have p0:=(HB2.out.below HB4.out).cell 0 rfl
    have x0:=hX4.cell 0 rfl
    have x5:=hX4.cell 5 rfl
    have hee:a5y true l[k]=(pOk l[k] && !(true&&(!decide (eop=3) || !nameB enm))):=by
     unfold a5y
     rw[EE.out]
     rfl
    clear hw4 HB HWB hX4 r0 r1 r2 r3 r4 r5 r6 hsx
    cases hp:pOk l[k] with
    |false=>
     have HF:=h_ (b1U hlt (hee.trans (by rw[hp];rfl)))
     clear hee hp
     go_wp2_with fail
     go_ret
     exact⟨by rw[HPK.out,HF.out];rfl,HW4.out⟩
    |true=>
     by_cases h3:eop=3
     ·cases hnb:nameB enm with
      |false=>
       have HF:=h_ (b1U hlt (hee.trans (by rw[hp,hnb];simp)))
       have HNM:=h_ (a0N (s:=enm) (HE.out.below HW4.out))
       rw[hnb] at HNM
       clear hee hp hnb
       go_wp2_with fail
       refine HNM.out.mono ?_
       rintro e' w5 ⟨rfl,hw5⟩
       have HW5:=t_ HW4 hw5
       clear hw5
       go_wp2_with fail
       go_ret
       exact⟨by rw[HPK.out,HF.out];rfl,HW5.out⟩
      |true=>
       have HF:=h_ (b6s hlt HT.out (hee.trans (by rw[hp,hnb,h3];rfl)))
       have HNM:=h_ (a0N (s:=enm) (HE.out.below HW4.out))
       rw[hnb] at HNM
       clear hee hp hnb
       go_wp2_with fail
       refine HNM.out.mono ?_
       rintro e' w5 ⟨rfl,hw5⟩
       have HB5:=t_ HB4 hw5
       clear hw5
       go_wp2_with fail
       go_roundw
       case rel=>exact⟨k+1,by omega,by go_num,HF.out,HB5.out⟩
       case measure=>simp[intOf];omega
     ·have h3b:(eop==3)=false:=by simpa using h3
      have HF:=h_ (b1U hlt (hee.trans (by rw[hp,decide_eq_false h3];simp)))
      clear hee hp
      go_wp2_with fail
      go_ret
      exact⟨by rw[HPK.out,HF.out];rfl,HW4.out⟩
   ·obtain rfl:k=l.length:=by omega
    have d1:decide ((l.length:Int)<(l.length:Int))=false:=decide_eq_false (by omega)
    have hT:a5G true l=true:=by have:=HT.out;rwa [List.take_length] at this
    have HPK2:Hid (ANS=a0o 25 int vk vi vs nm):=h_ (by rw[HPK.out,hT];rfl)
    have HBr:=h_ (HB2.out.below hb)
    have HWr:=t_ HW2 hb
    clear hb hT HT HPK HB2 HW2
    have p0:=HBr.out.cell 0 rfl
    go_upto_region 10 with(fail)
    refine nA fun w3 hB hw3 hz3=>?_
    have HB3:=h_ (HBr.out.below hw3)
    have HP3:=h_ hB
    have HW3:=t_ HWr hw3
    have hne:=HBr.out.lt
    have HPK:=HPK2
    clear hw3 hB p0 hz3 HBr HWr HPK2
    have p0:=HB3.out.cell 0 rfl
    have hrm:=mkE (a0k int)
    go_upto_region 19 with(fail)
    have hj0:JS w3 wr.heap.size 1 7 (.int .i64 int) [.int .i64 25,.int .i64 0,.int .i64 0,.int .i64 0,.string ⟨#[]⟩,.string ⟨#[]⟩,.slice none 0 0] (Array.replicate 9 false) {w3 with drawn:=w3.drawn+1}:=⟨(belowD w3 1).mono (by have:=HP3.out.lt;omega),_,HP3.out.below (belowD w3 1),fun h=>by simp at h⟩
    refine Gr.a6F 8 (by kernel_rfl) (by kernel_rfl) (JS w3 wr.heap.size 1 7 (.int .i64 int) [.int .i64 25,.int .i64 0,.int .i64 0,.int .i64 0,.string ⟨#[]⟩,.string ⟨#[]⟩,.slice none 0 0]) hj0 ?_
    simp only[List.take_succ_cons,List.take_zero,List.drop_succ_cons,List.drop_zero]
    clear p0 hj0 HP3
    refine Gr.m_ _ (by go_simp;intro d w' hw';go_simp;rw[Gr.v_];exact⟨rfl,hw'.keep _ (by decide)⟩) ?_
    refine Gr.l_ fun K hK=>?_;go_simp;refine hK _ ?_;clear hK K
    refine Gr.m_ _ (by go_simp;intro d w' hw';have p1:=(Blk.low HB3.out hw'.low hne).cell 1 rfl;go_simp;rw[Gr.v_];exact⟨rfl,hw'.keep _ (by decide)⟩) ?_
    refine Gr.l_ fun K hK=>?_;go_simp;refine hK _ ?_;clear hK K
    refine Gr.m_ _ (by go_simp;intro d w' hw';go_simp;rw[Gr.v_];exact⟨rfl,hw'.keep _ (by decide)⟩) ?_
    refine Gr.l_ fun K hK=>?_;go_simp;refine hK _ ?_;clear hK K
    refine Gr.m_ _ (by go_simp;intro d w' hw';have p1:=(Blk.low HB3.out hw'.low hne).cell 1 rfl;go_simp;rw[Gr.v_];exact⟨rfl,hw'.keep _ (by decide)⟩) ?_
    refine Gr.l_ fun K hK=>?_;go_simp;refine hK _ ?_;clear hK K
    refine Gr.m_ (.string ⟨(a0k int).toArray⟩) (by go_simp;intro d w' hw';go_simp;rw[Gr.a3X];exact(b3J int w').mono fun e w'' h'=>⟨h'.1,(hw'.grow h'.2).keep _ (by decide)⟩) ?_
    refine Gr.l_ fun K hK=>?_;go_simp;refine hK _ ?_;clear hK K
    cases hr:(a0k int).isEmpty<;>rw[hr] at hrm
    iterate 2
     ·refine Gr.m_ _ (by go_simp;intro d w' hw';go_simp;rw[Gr.v_];exact⟨rfl,hw'.keep _ (by decide)⟩) ?_
      refine Gr.l_ fun K hK=>?_;go_simp;refine hK _ ?_;clear hK K
      refine Gr.m_ _ (by go_simp;intro d w' hw';go_simp;rw[Gr.v_];exact⟨rfl,hw'.keep _ (by decide)⟩) ?_
      refine Gr.l_ fun K hK=>?_;go_simp;refine hK _ ?_;clear hK K
      refine Gr.m_ undef (by go_simp;intro d w' hw';obtain⟨c1,hbk,_⟩:=hw'.blk;have q:=hbk.cell 1 rfl;have f:=hbk.free 1;go_simp;rw[Gr.a2f];exact⟨rfl,hw'.put⟩) ?_
      refine Gr.l_ fun K hK=>?_;go_simp;refine hK _ ?_;clear hK K
      refine Gr.a6Z fun d w4 hd hw4=>?_
      obtain⟨c1,hP5,a1⟩:=hw4.blk
      obtain rfl:=a1 (hd 7 (by decide))
      have hB5:=Blk.low HB3.out hw4.low hne
      have HW5:=h_ (HW3.out.trans (hw4.low.mono (Nat.le_of_lt hne)))
      clear hw4 HB3 HW3 a1 hd
      have p1:=hB5.cell 1 rfl
      have p2:=hB5.cell 2 rfl
      have p3:=hB5.cell 3 rfl
      have p4:=hB5.cell 4 rfl
      have p5:=hB5.cell 5 rfl
      have q1:=hP5.cell 1 rfl
      have q2:=hP5.cell 2 rfl
      have q3:=hP5.cell 3 rfl
      have q4:=hP5.cell 4 rfl
      have q5:=hP5.cell 5 rfl
      clear hB5 hP5
      cases he:vs.isEmpty<;>rw[he] at hem<;>cases hn:nm.isEmpty<;>rw[hn] at hemn<;>go_wp2_with fail
      all_goals(go_ret;refine⟨congrArg (fun z=>Ending.returned (.bool z)) ?_,HW5.out⟩;rw[HPK.out];clear HPK p1 p2 p3 p4 p5 q1 q2 q3 q4 q5;unfold a0o;simp_all[x_])
theorem a8h(N:Nat)(hN:N<=1152921504606846976)(HI:∀(x:X) (cs:List Value) (w:World),nodes x<=N->D_ x->Env w->XR w x cs->Calls Tryz.prog 25 #[.agg cs.toArray] w (Ret w (.bool (pOk x))))(op int vk vi:Int)(vs nm:S)(l:List X)(cs:List Value)(w:World)(h25:op ≠ 25)(hn:j_ l<=N)(hsh:vs.length<4294967281/\nm.length<4294967281)(hshl:a0M l)(hE:Env w)(h:XR w (.mk op int vk vi vs nm l) cs) :
  Calls Tryz.prog 25 #[.agg cs.toArray] w (Ret w (.bool (pOk (.mk op int vk vi vs nm l)))):=by
 have HI:=h_ HI
 have HE:=h_ hE
 have HSH:=h_ hshl
 have HPD:=h_ (b6n op int vk vi vs nm l)
 have hem:=mkE vs
 have hemn:=mkE nm
 obtain⟨a,m,rfl,hl,hvs,hnm,hlen⟩:=h.lits
 have HL:=h_ hl
 have HVS:Hid (vs.length<=140737488351232):=h_ (by omega)
 clear h hl hE hshl
 have er:decide (op=25)=false:=decide_eq_false h25
 rw[er] at HPD
 clear er
 have h25b:(op==25)=false:=by simpa using h25
 generalize pOk (.mk op int vk vi vs nm l)=ANS at HPD |-
 go_enter Tryz.func25,Tryz.ntmps25
 go_upto_region 1 with(fail)
 refine nA fun w1 hB hw1 hz1=>?_
 have HW:=h_ hw1
 have HBk:=h_ hB
 have p0:=hB.cell 0 rfl
 have p6:=hB.cell 6 rfl
 clear hB hw1
 go_wp2_with fail
 refine(a4G op l.length w1).mono ?_
 rintro e w2 ⟨rfl,hw2⟩
 have HB2:=h_ (HBk.out.below hw2)
 have HW2:=t_ HW hw2
 clear hw2 p0 p6 HBk HW
 cases ha:a0D op l.length with
 |false=>
  go_wp2_with fail
  go_ret
  exact⟨by rw[HPD.out,ha];rfl,HW2.out⟩
 |true=>
  have HPK:Hid (ANS=(a5G false l&&a0o op int vk vi vs nm)):=h_ (by rw[HPD.out,ha];rfl)
  clear HPD ha
  have p6:=HB2.out.cell 6 rfl
  go_upto_region 9 with(fail)
  clear p6
  go_loopw [17] (fun i wr=>∃k:Nat,k<=l.length/\i=.int .i64 (k:Int)/\a5G false (l.take k)=true/\Below w2.heap.size w2 wr) (fun i _=>l.length - (intOf i).toNat)
  case atStart=>exact⟨0,Nat.zero_le _,rfl,rfl,Below.refl _ _⟩
  case round=>
   obtain⟨k,hk,rfl,ht,hb⟩:=hrel
   have HT:=h_ ht
   clear ht
   by_cases hlt:k<l.length
   ·have hwb:=HW2.out.trans (hb.mono HW2.out.size)
    obtain⟨g,o,us,eq,hgl,hcell,hkx,hrx⟩:=HL.out.at_ hlt
    subst eq
    have HX:=h_ hrx
    obtain⟨eop,eint,evk,evi,evs,enm,el,ee⟩:∃eop eint evk evi evs enm el,l[k]=X.mk eop eint evk evi evs enm el:=by
     cases l[k]
     exact⟨_,_,_,_,_,_,_,rfl⟩
    rw[ee] at hrx
    obtain⟨ea,em,rfl,_⟩:=hrx.lits
    have rr:∀j (u:Value),([.int .i64 eop,.int .i64 eint,.int .i64 evk,.int .i64 evi,.string ⟨evs.toArray⟩,.string ⟨enm.toArray⟩,.slice ea el.length em]:List Value)[j]? = some u->wr.cell? ⟨g,o+k*7+j,none⟩=some u:=fun j u hu=>(hwb.cell (by exact hgl)).trans (hcell j u hu)
    have r0:=rr 0 _ rfl
    have r1:=rr 1 _ rfl
    have r2:=rr 2 _ rfl
    have r3:=rr 3 _ rfl
    have r4:=rr 4 _ rfl
    have r5:=rr 5 _ rfl
    have r6:=rr 6 _ rfl
    simp only[Nat.add_zero] at r0
    have EE:=h_ ee
    have c2:(k:Int)<(l.length:Int):=by omega
    have c3:(0:Int)<=(k:Int):=by omega
    have d1:decide ((k:Int)<(l.length:Int))=true:=decide_eq_true c2
    have gl:g<wr.heap.size:=by have:=hwb.size;omega
    have HWB:=h_ hwb
    clear rr hcell hrx ee
    have hle:=M_ (List.getElem_mem (l:=l) hlt)
    have hsx:=a1V HSH.out (List.getElem_mem (l:=l) hlt)
    have HB:=h_ hb
    clear hb hwb
    go_wp2_with fail
    refine(HI.out l[k] _ _ (by omega) hsx (HE.out.below (HWB.out.trans ((d_ wr _).mono HWB.out.size))) (HX.out.kept (HWB.out.trans ((d_ wr _).mono HWB.out.size)) (Nat.le_refl _))).mono ?_
    rintro e' w4 ⟨rfl,hw4⟩
    have HB4:=h_ ((HB.out.trans ((d_ wr _).mono HB.out.size)).trans (hw4.mono (by have:=HB.out.size;simp;omega)))
    have HW4:=h_ (HW2.out.trans (HB4.out.mono HW2.out.size))
    have hX4:Blk w4 wr.heap.size [.int .i64 eop,.int .i64 eint,.int .i64 evk,.int .i64 evi,.string ⟨evs.toArray⟩,.string ⟨enm.toArray⟩,.slice ea el.length em] 26:=(Blk.new wr _ _).below hw4
    have p0:=(HB2.out.below HB4.out).cell 0 rfl
    have x0:=hX4.cell 0 rfl
    have x5:=hX4.cell 5 rfl
    have hee:a5y false l[k]=(pOk l[k] && !(false&&(!decide (eop=3) || !nameB enm))):=by
     unfold a5y
     rw[EE.out]
     rfl
    clear hw4 HB HWB hX4 r0 r1 r2 r3 r4 r5 r6 hsx
    cases hp:pOk l[k] with
    |false=>
     have HF:=h_ (b1U hlt (hee.trans (by rw[hp];rfl)))
     clear hee hp
     go_wp2_with fail
     go_ret
     exact⟨by rw[HPK.out,HF.out];rfl,HW4.out⟩
    |true=>
     have HF:=h_ (b6s hlt HT.out (hee.trans (by rw[hp];rfl)))
     clear hee hp
     go_wp2_with fail
     go_roundw
     case rel=>exact⟨k+1,by omega,by go_num,HF.out,HB4.out⟩
     case measure=>simp[intOf];omega
   ·obtain rfl:k=l.length:=by omega
    have d1:decide ((l.length:Int)<(l.length:Int))=false:=decide_eq_false (by omega)
    have hT:a5G false l=true:=by have:=HT.out;rwa [List.take_length] at this
    have HPK2:Hid (ANS=a0o op int vk vi vs nm):=h_ (by rw[HPK.out,hT];rfl)
    have HBr:=h_ (HB2.out.below hb)
    have HWr:=t_ HW2 hb
    clear hb hT HT HPK HB2 HW2
    have p0:=HBr.out.cell 0 rfl
    go_upto_region 10 with(fail)
    refine nA fun w3 hB hw3 hz3=>?_
    have HB3:=h_ (HBr.out.below hw3)
    have HP3:=h_ hB
    have HW3:=t_ HWr hw3
    have hne:=HBr.out.lt
    have HPK:=HPK2
    clear hw3 hB p0 hz3 HBr HWr HPK2
    have p0:=HB3.out.cell 0 rfl
    by_cases h1:op=1
    ·subst h1
     go_upto_region 13 with(fail)
     have hb0:Below w3.heap.size w3 {w3 with drawn:=w3.drawn+1}:=belowD w3 1
     refine Gr.f_ 6 (by kernel_rfl) (by kernel_rfl) (fun w'=>Below w3.heap.size w3 w') hb0 ?_
     simp only[List.take_succ_cons,List.take_zero,List.drop_succ_cons,List.drop_zero]
     clear p0 hb0
     iterate 6
      first
      |apply Gr.sn (.bool (G_ vk vi vs));focus(go_simp;intro w' hw';go_simp;rw[Gr.b_];exact Ret.fam (a5x vk vi vs w' HVS.out) hw';done)
      |apply Gr.sn;focus(go_simp;intro w' hw';go_simp;rw[Gr.a_];done)
      |apply Gr.sn;focus(go_simp;intro w' hw';have p2:=(HB3.out.below hw').cell 2 rfl;have p3:=(HB3.out.below hw').cell 3 rfl;have p4:=(HB3.out.below hw').cell 4 rfl;go_simp;rw[Gr.a_];done)
      intro K hK;go_simp;refine hK _ ?_;clear hK K
     refine Gr.o_ fun w4 hw4=>?_
     have HB4:=h_ (HB3.out.below hw4)
     have hP4:=HP3.out.below hw4
     have HW4:=t_ HW3 hw4
     clear hw4 HB3 HP3 HW3
     refine b7n hP4 (by simp) (Nat.le_refl _) rfl (.tmp 53) (.tmp 49) rfl (.int .i64 vk) (.int .i64 vi) (.string ⟨vs.toArray⟩) rfl rfl (all_oneCell_toArray (cs:=[.int .i64 vk,.int .i64 vi,.string ⟨vs.toArray⟩]) (by intro v hv;simp at hv;rcases hv with rfl|rfl|rfl<;>rfl)) fun w5 hP5 hlow=>?_
     clear hP4
     have hB5:=Blk.low HB4.out hlow hne
     have HW5:=h_ (HW4.out.trans (hlow.mono (Nat.le_of_lt hne)))
     have p1:=hB5.cell 1 rfl
     have p2:=hB5.cell 2 rfl
     have p3:=hB5.cell 3 rfl
     have p4:=hB5.cell 4 rfl
     have p5:=hB5.cell 5 rfl
     have q1:=hP5.cell 1 rfl
     have q2:=hP5.cell 2 rfl
     have q3:=hP5.cell 3 rfl
     have q4:=hP5.cell 4 rfl
     have q5:=hP5.cell 5 rfl
     clear hB5 hP5 HB4 HW4 hlow
     cases he:vs.isEmpty<;>rw[he] at hem<;>cases hn:nm.isEmpty<;>rw[hn] at hemn<;>cases hv:G_ vk vi vs<;>go_wp2_with fail
     all_goals(go_ret;refine⟨congrArg (fun z=>Ending.returned (.bool z)) ?_,HW5.out⟩;rw[HPK.out];clear HPK p1 p2 p3 p4 p5 q1 q2 q3 q4 q5;unfold a0o;simp_all[x_])
    ·have h1b:(op==1)=false:=by simpa using h1
     by_cases h3:op=3
     ·subst h3
      go_upto_region 15 with(fail)
      have hb0:Below w3.heap.size w3 {w3 with drawn:=w3.drawn+1}:=belowD w3 1
      refine Gr.f_ 6 (by kernel_rfl) (by kernel_rfl) (fun w'=>Below w3.heap.size w3 w') hb0 ?_
      simp only[List.take_succ_cons,List.take_zero,List.drop_succ_cons,List.drop_zero]
      clear p0 hb0
      iterate 6
       first
       |apply Gr.sn (.bool (a2v nm));focus(go_simp;intro w' hw';go_simp;rw[Gr.b_];exact Ret.fam (a8s (HE.out.below (HW3.out.trans (hw'.mono HW3.out.size))) hsh.2) hw';done)
       |apply Gr.sn;focus(go_simp;intro w' hw';go_simp;rw[Gr.a_];done)
       |apply Gr.sn;focus(go_simp;intro w' hw';have p5:=(HB3.out.below hw').cell 5 rfl;go_simp;rw[Gr.a_];done)
       intro K hK;go_simp;refine hK _ ?_;clear hK K
      refine Gr.o_ fun w4 hw4=>?_
      have HB4:=h_ (HB3.out.below hw4)
      have hP4:=HP3.out.below hw4
      have HW4:=t_ HW3 hw4
      clear hw4 HB3 HP3 HW3
      have q:=hP4.cell 5 rfl
      have f:=hP4.free 5
      go_upto_region 20 with(fail)
      clear q f
      refine a5U (K:=Code.wp _ _ _ _) hP4 (Nat.le_refl _) fun w5 hP5 hlow=>?_
      clear hP4
      have hB5:=Blk.low HB4.out hlow hne
      have HW5:=h_ (HW4.out.trans (hlow.mono (Nat.le_of_lt hne)))
      have p1:=hB5.cell 1 rfl
      have p2:=hB5.cell 2 rfl
      have p3:=hB5.cell 3 rfl
      have p4:=hB5.cell 4 rfl
      have p5:=hB5.cell 5 rfl
      have q1:=hP5.cell 1 rfl
      have q2:=hP5.cell 2 rfl
      have q3:=hP5.cell 3 rfl
      have q4:=hP5.cell 4 rfl
      have q5:=hP5.cell 5 rfl
      clear hB5 hP5 HB4 HW4 hlow
      cases he:vs.isEmpty<;>rw[he] at hem<;>cases hn:nm.isEmpty<;>rw[hn] at hemn<;>cases hv:a2v nm<;>go_wp2_with fail
      all_goals(go_ret;refine⟨congrArg (fun z=>Ending.returned (.bool z)) ?_,HW5.out⟩;rw[HPK.out];clear HPK p1 p2 p3 p4 p5 q1 q2 q3 q4 q5;unfold a0o;simp_all[x_])
     ·have h3b:(op==3)=false:=by simpa using h3
      by_cases h26:op=26
      ·subst h26
       have hrm:=mkE (a0u int)
       go_upto_region 17 with(fail)
       have hj0:J26 w3 wr.heap.size int nm (Array.replicate 18 false) {w3 with drawn:=w3.drawn+1}:=⟨(belowD w3 1).mono (by have:=HP3.out.lt;omega),_,_,HP3.out.below (belowD w3 1),fun h=>by simp at h,fun h=>by simp at h⟩
       refine Gr.a6F 17 (by kernel_rfl) (by kernel_rfl) (J26 w3 wr.heap.size int nm) hj0 ?_
       simp only[List.take_succ_cons,List.take_zero,List.drop_succ_cons,List.drop_zero]
       clear p0 hj0 HP3
       refine Gr.m_ _ (by go_simp;intro d w' hw';go_simp;rw[Gr.v_];exact⟨rfl,hw'.keep _ (by decide) (by decide)⟩) ?_
       refine Gr.l_ fun K hK=>?_;go_simp;refine hK _ ?_;clear hK K
       refine Gr.m_ _ (by go_simp;intro d w' hw';have p5:=(Blk.low HB3.out hw'.low hne).cell 5 rfl;go_simp;rw[Gr.v_];exact⟨rfl,hw'.keep _ (by decide) (by decide)⟩) ?_
       refine Gr.l_ fun K hK=>?_;go_simp;refine hK _ ?_;clear hK K
       refine Gr.m_ _ (by go_simp;intro d w' hw';go_simp;rw[Gr.v_];exact⟨rfl,hw'.keep _ (by decide) (by decide)⟩) ?_
       refine Gr.l_ fun K hK=>?_;go_simp;refine hK _ ?_;clear hK K
       refine Gr.m_ _ (by go_simp;intro d w' hw';have p1:=(Blk.low HB3.out hw'.low hne).cell 1 rfl;go_simp;rw[Gr.v_];exact⟨rfl,hw'.keep _ (by decide) (by decide)⟩) ?_
       refine Gr.l_ fun K hK=>?_;go_simp;refine hK _ ?_;clear hK K
       refine Gr.m_ _ (by go_simp;intro d w' hw';go_simp;rw[Gr.v_];exact⟨rfl,hw'.keep _ (by decide) (by decide)⟩) ?_
       refine Gr.l_ fun K hK=>?_;go_simp;refine hK _ ?_;clear hK K
       refine Gr.m_ _ (by go_simp;intro d w' hw';have p5:=(Blk.low HB3.out hw'.low hne).cell 5 rfl;go_simp;rw[Gr.v_];exact⟨rfl,hw'.keep _ (by decide) (by decide)⟩) ?_
       refine Gr.l_ fun K hK=>?_;go_simp;refine hK _ ?_;clear hK K
       refine Gr.m_ (.bool (nameB nm)) (by go_simp;intro d w' hw';go_simp;rw[Gr.a3X];exact(a0N (s:=nm) (HE.out.below (HW3.out.trans (hw'.low.mono (Nat.le_of_lt hne))))).mono fun e w'' h'=>⟨h'.1,(hw'.grow h'.2).keep _ (by decide) (by decide)⟩) ?_
       refine Gr.l_ fun K hK=>?_;go_simp;refine hK _ ?_;clear hK K
       cases hnb:nameB nm
       ·refine Gr.m_ _ (by go_simp;intro d w' hw';go_simp;rw[Gr.v_];exact⟨rfl,hw'.keep _ (by decide) (by decide)⟩) ?_
        refine Gr.l_ fun K hK=>?_;go_simp;refine hK _ ?_;clear hK K
        refine Gr.m_ undef (by go_simp;intro d w' hw';exact hw'.keep _ (by decide) (by decide)) ?_
        refine Gr.l_ fun K hK=>?_;go_simp;refine hK _ ?_;clear hK K
        refine Gr.m_ undef (by go_simp;intro d w' hw';exact hw'.keep _ (by decide) (by decide)) ?_
        refine Gr.l_ fun K hK=>?_;go_simp;refine hK _ ?_;clear hK K
        refine Gr.m_ undef (by go_simp;intro d w' hw';exact hw'.keep _ (by decide) (by decide)) ?_
        refine Gr.l_ fun K hK=>?_;go_simp;refine hK _ ?_;clear hK K
        refine Gr.m_ undef (by go_simp;intro d w' hw';exact hw'.keep _ (by decide) (by decide)) ?_
        refine Gr.l_ fun K hK=>?_;go_simp;refine hK _ ?_;clear hK K
        refine Gr.m_ _ (by go_simp;intro d w' hw';go_simp;rw[Gr.v_];exact⟨rfl,hw'.keep _ (by decide) (by decide)⟩) ?_
        refine Gr.l_ fun K hK=>?_;go_simp;refine hK _ ?_;clear hK K
        refine Gr.m_ _ (by go_simp;intro d w' hw';go_simp;rw[Gr.v_];exact⟨rfl,hw'.keep _ (by decide) (by decide)⟩) ?_
        refine Gr.l_ fun K hK=>?_;go_simp;refine hK _ ?_;clear hK K
        refine Gr.m_ undef (by go_simp;intro d w' hw';obtain⟨c1,c5,hbk,_,_⟩:=hw'.blk;have q:=hbk.cell 5 rfl;have f:=hbk.free 5;go_simp;rw[Gr.a2f];exact⟨rfl,hw'.b8R⟩) ?_
        refine Gr.l_ fun K hK=>?_;go_simp;refine hK _ ?_;clear hK K
        refine Gr.m_ _ (by go_simp;intro d w' hw';go_simp;rw[Gr.v_];exact⟨rfl,hw'.keep _ (by decide) (by decide)⟩) ?_
        refine Gr.l_ fun K hK=>?_;go_simp;refine hK _ ?_;clear hK K
        refine Gr.m_ undef (by go_simp;intro d w' hw';obtain⟨c1,c5,hbk,_,_⟩:=hw'.blk;have q:=hbk.cell 1 rfl;have f:=hbk.free 1;go_simp;rw[Gr.a2f];exact⟨rfl,hw'.intIn⟩) ?_
        refine Gr.l_ fun K hK=>?_;go_simp;refine hK _ ?_;clear hK K
        refine Gr.a6Z fun d w4 hd hw4=>?_
        obtain⟨c1,c5,hP5,a1,a2⟩:=hw4.blk
        obtain rfl:=a1 (hd 14 (by decide))
        obtain rfl:=a2 (hd 16 (by decide))
        have hB5:=Blk.low HB3.out hw4.low hne
        have HW5:=h_ (HW3.out.trans (hw4.low.mono (Nat.le_of_lt hne)))
        clear hw4 HB3 HW3 a1 a2 hd
        have p1:=hB5.cell 1 rfl
        have p2:=hB5.cell 2 rfl
        have p3:=hB5.cell 3 rfl
        have p4:=hB5.cell 4 rfl
        have p5:=hB5.cell 5 rfl
        have q1:=hP5.cell 1 rfl
        have q2:=hP5.cell 2 rfl
        have q3:=hP5.cell 3 rfl
        have q4:=hP5.cell 4 rfl
        have q5:=hP5.cell 5 rfl
        clear hB5 hP5
        cases he:vs.isEmpty<;>rw[he] at hem<;>cases hn:nm.isEmpty<;>rw[hn] at hemn<;>go_wp2_with fail
        all_goals(go_ret;refine⟨congrArg (fun z=>Ending.returned (.bool z)) ?_,HW5.out⟩;rw[HPK.out];clear HPK p1 p2 p3 p4 p5 q1 q2 q3 q4 q5;unfold a0o;simp_all[x_])
       ·refine Gr.m_ _ (by go_simp;intro d w' hw';go_simp;rw[Gr.v_];exact⟨rfl,hw'.keep _ (by decide) (by decide)⟩) ?_
        refine Gr.l_ fun K hK=>?_;go_simp;refine hK _ ?_;clear hK K
        refine Gr.m_ _ (by go_simp;intro d w' hw';go_simp;rw[Gr.v_];exact⟨rfl,hw'.keep _ (by decide) (by decide)⟩) ?_
        refine Gr.l_ fun K hK=>?_;go_simp;refine hK _ ?_;clear hK K
        refine Gr.m_ _ (by go_simp;intro d w' hw';have p1:=(Blk.low HB3.out hw'.low hne).cell 1 rfl;go_simp;rw[Gr.v_];exact⟨rfl,hw'.keep _ (by decide) (by decide)⟩) ?_
        refine Gr.l_ fun K hK=>?_;go_simp;refine hK _ ?_;clear hK K
        refine Gr.m_ (.string ⟨(a0u int).toArray⟩) (by go_simp;intro d w' hw';go_simp;rw[Gr.a3X];exact(a8w int w').mono fun e w'' h'=>⟨h'.1,(hw'.grow h'.2).keep _ (by decide) (by decide)⟩) ?_
        refine Gr.l_ fun K hK=>?_;go_simp;refine hK _ ?_;clear hK K
        cases hr:(a0u int).isEmpty<;>rw[hr] at hrm
        iterate 2
         ·refine Gr.m_ _ (by go_simp;intro d w' hw';go_simp;rw[Gr.v_];exact⟨rfl,hw'.keep _ (by decide) (by decide)⟩) ?_
          refine Gr.l_ fun K hK=>?_;go_simp;refine hK _ ?_;clear hK K
          refine Gr.m_ _ (by go_simp;intro d w' hw';go_simp;rw[Gr.v_];exact⟨rfl,hw'.keep _ (by decide) (by decide)⟩) ?_
          refine Gr.l_ fun K hK=>?_;go_simp;refine hK _ ?_;clear hK K
          refine Gr.m_ _ (by go_simp;intro d w' hw';go_simp;rw[Gr.v_];exact⟨rfl,hw'.keep _ (by decide) (by decide)⟩) ?_
          refine Gr.l_ fun K hK=>?_;go_simp;refine hK _ ?_;clear hK K
          refine Gr.m_ undef (by go_simp;intro d w' hw';obtain⟨c1,c5,hbk,_,_⟩:=hw'.blk;have q:=hbk.cell 5 rfl;have f:=hbk.free 5;go_simp;rw[Gr.a2f];exact⟨rfl,hw'.b8R⟩) ?_
          refine Gr.l_ fun K hK=>?_;go_simp;refine hK _ ?_;clear hK K
          refine Gr.m_ _ (by go_simp;intro d w' hw';go_simp;rw[Gr.v_];exact⟨rfl,hw'.keep _ (by decide) (by decide)⟩) ?_
          refine Gr.l_ fun K hK=>?_;go_simp;refine hK _ ?_;clear hK K
          refine Gr.m_ undef (by go_simp;intro d w' hw';obtain⟨c1,c5,hbk,_,_⟩:=hw'.blk;have q:=hbk.cell 1 rfl;have f:=hbk.free 1;go_simp;rw[Gr.a2f];exact⟨rfl,hw'.intIn⟩) ?_
          refine Gr.l_ fun K hK=>?_;go_simp;refine hK _ ?_;clear hK K
          refine Gr.a6Z fun d w4 hd hw4=>?_
          obtain⟨c1,c5,hP5,a1,a2⟩:=hw4.blk
          obtain rfl:=a1 (hd 14 (by decide))
          obtain rfl:=a2 (hd 16 (by decide))
          have hB5:=Blk.low HB3.out hw4.low hne
          have HW5:=h_ (HW3.out.trans (hw4.low.mono (Nat.le_of_lt hne)))
          clear hw4 HB3 HW3 a1 a2 hd
          have p1:=hB5.cell 1 rfl
          have p2:=hB5.cell 2 rfl
          have p3:=hB5.cell 3 rfl
          have p4:=hB5.cell 4 rfl
          have p5:=hB5.cell 5 rfl
          have q1:=hP5.cell 1 rfl
          have q2:=hP5.cell 2 rfl
          have q3:=hP5.cell 3 rfl
          have q4:=hP5.cell 4 rfl
          have q5:=hP5.cell 5 rfl
          clear hB5 hP5
          cases he:vs.isEmpty<;>rw[he] at hem<;>cases hn:nm.isEmpty<;>rw[hn] at hemn<;>go_wp2_with fail
          all_goals(go_ret;refine⟨congrArg (fun z=>Ending.returned (.bool z)) ?_,HW5.out⟩;rw[HPK.out];clear HPK p1 p2 p3 p4 p5 q1 q2 q3 q4 q5;unfold a0o;simp_all[x_])
      ·have h26b:(op==26)=false:=by simpa using h26
       go_upto_region 20 with(fail)
       have hB5:=HB3.out
       have hP5:=HP3.out
       have HW5:=HW3
       clear HB3 HP3 HW3 p0
       have p1:=hB5.cell 1 rfl
       have p2:=hB5.cell 2 rfl
       have p3:=hB5.cell 3 rfl
       have p4:=hB5.cell 4 rfl
       have p5:=hB5.cell 5 rfl
       have q1:=hP5.cell 1 rfl
       have q2:=hP5.cell 2 rfl
       have q3:=hP5.cell 3 rfl
       have q4:=hP5.cell 4 rfl
       have q5:=hP5.cell 5 rfl
       clear hB5 hP5
       cases he:vs.isEmpty<;>rw[he] at hem<;>cases hn:nm.isEmpty<;>rw[hn] at hemn<;>go_wp2_with fail
       all_goals(go_ret;refine⟨congrArg (fun z=>Ending.returned (.bool z)) ?_,HW5.out⟩;rw[HPK.out];clear HPK p1 p2 p3 p4 p5 q1 q2 q3 q4 q5;unfold a0o;simp_all[x_])
theorem a4u:∀(N:Nat) (x:X) (cs:List Value) (w:World),nodes x<=N->N<=1152921504606846976->D_ x->Env w->XR w x cs->Calls Tryz.prog 25 #[.agg cs.toArray] w (Ret w (.bool (pOk x)))
 |0,x,_,_,h,_,_,_,_=>absurd (U_ x) (by omega)
 |N+1,.mk op int vk vi vs nm l,cs,w,hn,hN,hs,hE,h=>by
  rw[nodes] at hn
  rw[D_] at hs
  have HI:∀(x:X) (cs:List Value) (w:World),nodes x<=N->D_ x->Env w->XR w x cs->Calls Tryz.prog 25 #[.agg cs.toArray] w (Ret w (.bool (pOk x))):=fun x cs w h1 h2 h3 h4=>a4u N x cs w h1 (by omega) h2 h3 h4
  by_cases h25:op=25
  ·subst h25
   exact a9T N (by omega) HI int vk vi vs nm l cs w (by omega) hs.1 hs.2 hE h
  ·exact a8h N (by omega) HI op int vk vi vs nm l cs w h25 (by omega) hs.1 hs.2 hE h
theorem c1f(s:S):(ByteArray.mk s.toArray).extract 0 (V_ s).length=⟨(V_ s).toArray⟩:=by
 apply a1W
 rw[ByteArray.data_extract,Array.toList_extract,List.extract_eq_take_drop]
 simp[a9v]
theorem b8F(s:S):(ByteArray.mk s.toArray).extract ((V_ s).length+1) s.length=⟨(a2q s).toArray⟩:=by
 apply a1W
 rw[ByteArray.data_extract,Array.toList_extract,List.extract_eq_take_drop]
 simp only[a2q]
 rw[List.take_of_length_le (by simp)]
theorem c2o{s:S}(h:a0h s=true):(V_ s).length+1<=s.length:=by
 have h1:V_ s <+: s:=List.takeWhile_prefix _
 have hl:=h1.length_le
 rcases Nat.lt_or_ge (V_ s).length s.length with h2|h2
 ·omega
 ·have e:V_ s=s:=by rw[<-a9v s,List.take_of_length_le h2]
  unfold a0h at h
  have hm:(46:UInt8)∈s:=by simpa using h
  rw[<-e] at hm
  have h3:(s.takeWhile (fun c=>c != 46)).all (fun c=>c != 46)=true:=List.all_takeWhile
  have:=List.all_eq_true.1 h3 _ hm
  simp at this
theorem a9g(s:S)(w:World)(hs:s.length<=140737488351232):Calls Tryz.prog 146 #[.string ⟨s.toArray⟩] w (Ret w (.bool (a2v s))):=by
 have hsz:=mkS s
 cases hd:a0h s with
 |false=>
  have hp:=a5H s w hs
  have e:a2O s = -1:=by unfold a2O;rw[hd];rfl
  rw[e] at hp
  have HP:=h_ hp
  have HR:Hid (a2v s=nameB s):=h_ (by unfold a2v;rw[hd];rfl)
  clear hp e hd
  go_enter Tryz.func146,Tryz.ntmps146
  go_wp2_with fail
  refine HP.out.mono ?_
  rintro e w1 ⟨rfl,hb1⟩
  have HB:=h_ hb1
  clear hb1
  go_wp2_with fail
  refine(a1H s w1).mono ?_
  rintro e w2 ⟨rfl,hb2⟩
  have HB2:=t_ HB hb2
  clear hb2
  go_wp2_with fail
  go_ret
  exact⟨by rw[HR.out];rfl,HB2.out⟩
 |true=>
  have hp:=a5H s w hs
  have e:a2O s=((V_ s).length:Int):=by unfold a2O;rw[hd];rfl
  rw[e] at hp
  have HP:=h_ hp
  have HR:Hid (a2v s=(nameB (V_ s)&&nameB (a2q s))):=h_ (by unfold a2v;rw[hd];rfl)
  have hlt:=c2o hd
  have x1:=c1f s
  have x2:=b8F s
  clear hp e hd
  generalize a2q s=b at HR x2
  generalize hpq:V_ s=a at HR x1 x2 HP hlt
  have n0:(0:Int)<=(a.length:Int):=by omega
  have n1:(a.length:Int)<=(s.length:Int):=by omega
  have n2:(a.length:Int)+1<=(s.length:Int):=by omega
  clear hpq
  go_enter Tryz.func146,Tryz.ntmps146
  go_wp2_with fail
  refine HP.out.mono ?_
  rintro e w1 ⟨rfl,hb1⟩
  have HB:=h_ hb1
  clear hb1 HP
  go_wp2_with fail
  refine(a1H a w1).mono ?_
  rintro e w2 ⟨rfl,hb2⟩
  have HB2:=t_ HB hb2
  clear hb2
  cases hn:nameB a<;>go_wp2_with fail
  ·go_ret
   exact⟨by rw[HR.out,hn];rfl,HB2.out⟩
  ·refine(a1H b w2).mono ?_
   rintro e w3 ⟨rfl,hb3⟩
   have HB3:=t_ HB2 hb3
   clear hb3
   go_wp2_with fail
   go_ret
   exact⟨by rw[HR.out,hn];rfl,HB3.out⟩
theorem b7i(s:S):decide (a2O s<0) = !a0h s:=by
 unfold a2O
 cases a0h s with
 |false=>rfl
 |true=>simp
theorem a9u{x:X}{cs:List Value}{w:World}(h:XR w x cs)(hs:x.nm.length<4294967281):Calls Tryz.prog 147 #[.agg cs.toArray] w (Ret w (.bool (a0W x))):=by
 obtain⟨op,int,vk,vi,vs,nm,l⟩:=x
 obtain⟨a,m,rfl,_⟩:=h.lits
 have hs':nm.length<=140737488351232:=by have:nm.length<4294967281:=hs;omega
 have hpn:=b7i nm
 have HT:Hid (a0W (.mk op int vk vi vs nm l)=(decide (op=3) && !a0h nm)):=h_ rfl
 have HP:=h_ fun w'=>a5H nm w' hs'
 generalize a2O nm=V at hpn HP
 clear h hs hs'
 go_enter Tryz.func147,Tryz.ntmps147
 go_upto_region 1 with(fail)
 refine nA fun w1 hB hw1 hz1=>?_
 have p0:=hB.cell 0 rfl
 have p5:=hB.cell 5 rfl
 have HW:=h_ hw1
 clear hB hw1
 by_cases h3:op=3
 ·subst h3
  go_wp2_with fail
  refine(HP.out w1).mono ?_
  rintro e w2 ⟨rfl,hw2⟩
  have HW2:=t_ HW hw2
  clear hw2
  go_wp2_with fail
  all_goals(go_ret;refine⟨congrArg (fun z=>Ending.returned (.bool z)) ?_,HW2.out⟩;rw[HT.out,<-hpn];simp_all)
 ·have h3b:(op==3)=false:=by simpa using h3
  go_wp2_with fail
  go_ret
  exact⟨by rw[HT.out,decide_eq_false h3];rfl,HW.out⟩
theorem a7D{x:X}{cs:List Value}{w:World}(h:XR w x cs)(hv:∀op int vk vi vs nm l,x=.mk op int vk vi vs nm l->op ≠ 2/\op ≠ 24/\vs.length<4294967281) :
  ∀op int vk vi vs nm l,x=.mk op int vk vi vs nm l->Calls Tryz.prog 148 #[.agg cs.toArray] w (Ret w (.bool (a2w op int vk vi vs nm l.length))):=by
 rintro op int vk vi vs nm l rfl
 obtain⟨h2,h24,hvs⟩:=hv _ _ _ _ _ _ _ rfl
 obtain⟨a,m,rfl,hl,_,_,hlen⟩:=h.lits
 have hem:=mkE vs
 have hemn:=mkE nm
 have h2b:(op==2)=false:=by simpa using h2
 have h24b:(op==24)=false:=by simpa using h24
 have HVS:Hid (vs.length<=140737488351232):=h_ (by omega)
 clear h hv hl h2 h24 hvs
 have HPK:Hid (a2w op int vk vi vs nm l.length=((!decide ((arity op).1<0)&&(!decide ((l.length:Int)<(arity op).1)&&(!decide ((arity op).2<(l.length:Int))&&nm.isEmpty)))&&(if op=1 then decide (int=0)&&G_ vk vi vs else decide (int=0)&&x_ vk vi vs))):=h_ rfl
 generalize a2w op int vk vi vs nm l.length=ANS at HPK |-
 go_enter Tryz.func148,Tryz.ntmps148
 go_upto_region 1 with(fail)
 refine nA fun w1 hB hw1 hz1=>?_
 have HW:=h_ hw1
 have HBk:=h_ hB
 have p0:=hB.cell 0 rfl
 clear hB hw1
 go_wp2_with fail
 refine(a3M op w1).mono ?_
 rintro e w3 ⟨rfl,hw2⟩
 have HB3:=h_ (HBk.out.below hw2)
 have HW3:=t_ HW hw2
 clear hw2 p0 HBk HW
 have p0:=HB3.out.cell 0 rfl
 have p5:=HB3.out.cell 5 rfl
 have p6:=HB3.out.cell 6 rfl
 generalize(arity op).1=lo at HPK |-
 generalize(arity op).2=hi at HPK |-
 by_cases c1:lo<0
 ·have HF:Hid (ANS=false):=h_ (by rw[HPK.out,decide_eq_true c1];rfl)
  go_wp2_with fail
  go_ret
  exact⟨by rw[HF.out];rfl,HW3.out⟩
 by_cases c2:(l.length:Int)<lo
 ·have HF:Hid (ANS=false):=h_ (by rw[HPK.out,decide_eq_false c1,decide_eq_true c2];rfl)
  go_wp2_with fail
  go_ret
  exact⟨by rw[HF.out];rfl,HW3.out⟩
 by_cases c3:hi<(l.length:Int)
 ·have HF:Hid (ANS=false):=h_ (by rw[HPK.out,decide_eq_false c1,decide_eq_false c2,decide_eq_true c3];rfl)
  go_wp2_with fail
  go_ret
  exact⟨by rw[HF.out];rfl,HW3.out⟩
 cases hn:nm.isEmpty with
 |false=>
  rw[hn] at hemn
  have HF:Hid (ANS=false):=h_ (by rw[HPK.out,decide_eq_false c1,decide_eq_false c2,decide_eq_false c3,hn];rfl)
  go_wp2_with fail
  go_ret
  exact⟨by rw[HF.out];rfl,HW3.out⟩
 |true=>
  rw[hn] at hemn
  have HPK2:Hid (ANS=(if op=1 then decide (int=0)&&G_ vk vi vs else decide (int=0)&&x_ vk vi vs)):=h_ (by rw[HPK.out,decide_eq_false c1,decide_eq_false c2,decide_eq_false c3,hn];rfl)
  clear HPK
  have HPK:=HPK2
  clear HPK2
  by_cases h1:op=1
  ·subst h1
   have p1:=HB3.out.cell 1 rfl
   have p2:=HB3.out.cell 2 rfl
   have p3:=HB3.out.cell 3 rfl
   have p4:=HB3.out.cell 4 rfl
   by_cases hi0:int=0
   ·subst hi0
    have HF:Hid (ANS=G_ vk vi vs):=h_ (by rw[HPK.out];rfl)
    go_wp2_with fail
    refine(a7O vk vi vs w3 HVS.out).mono ?_
    rintro e w4 ⟨rfl,hw4⟩
    have HW4:=t_ HW3 hw4
    clear hw4
    go_wp2_with fail
    go_ret
    exact⟨by rw[HF.out];rfl,HW4.out⟩
   ·have hib:(int==0)=false:=by simpa using hi0
    have HF:Hid (ANS=false):=h_ (by rw[HPK.out,if_pos rfl,decide_eq_false hi0];rfl)
    go_wp2_with fail
    go_ret
    exact⟨by rw[HF.out];rfl,HW3.out⟩
  ·have h1b:(op==1)=false:=by simpa using h1
   rw[if_neg h1] at HPK
   go_upto_region 11 with(fail)
   have hb0:Below w3.heap.size w3 {w3 with drawn:=w3.drawn+1}:=belowD w3 1
   refine Gr.f_ 9 (by kernel_rfl) (by kernel_rfl) (fun w'=>Below w3.heap.size w3 w') hb0 ?_
   simp only[List.take_succ_cons,List.take_zero,List.drop_succ_cons,List.drop_zero]
   clear p0 hb0
   iterate 2
    first
    |apply Gr.sn;focus(go_simp;intro w' hw';go_simp;rw[Gr.a_];done)
    |apply Gr.sn;focus(go_simp;intro w' hw';have p1:=(HB3.out.below hw').cell 1 rfl;go_simp;rw[Gr.a_];done)
    intro K hK;go_simp;refine hK _ ?_;clear hK K
   by_cases hi0:int=0
   ·subst hi0
    iterate 5
     first
     |apply Gr.sn (.agg #[.int .i64 0,.int .i64 0,.string ⟨#[]⟩]);focus(go_simp;intro w' hw';go_simp;rw[Gr.b_];exact Ret.fam (a0x w') hw';done)
     |apply Gr.sn;focus(go_simp;intro w' hw';go_simp;rw[Gr.a_];done)
     |apply Gr.sn;focus(go_simp;intro w' hw';have p2:=(HB3.out.below hw').cell 2 rfl;have p3:=(HB3.out.below hw').cell 3 rfl;have p4:=(HB3.out.below hw').cell 4 rfl;go_simp;rw[Gr.a_];done)
     intro K hK;go_simp;refine hK _ ?_;clear hK K
    have hem2:=hem
    by_cases hk:vk=0<;>by_cases hj:vi=0<;>cases he:vs.isEmpty<;>rw[he] at hem
    all_goals
     iterate 2
      refine Gr.sn _ (by go_simp;intro w' hw';go_simp;rw[Gr.a_]) fun K hK=>?_;go_simp;refine hK _ ?_;clear hK K
     refine Gr.o_ fun w4 hw4=>?_
     have HW4:=t_ HW3 hw4
     clear hw4
     go_wp2_with fail
     go_ret
     refine⟨congrArg (fun z=>Ending.returned (.bool z)) ?_,HW4.out⟩
     rw[HPK.out];clear HPK;simp_all[x_]
   ·have hib:(int==0)=false:=by simpa using hi0
    iterate 7
     first
     |apply Gr.sn undef;focus(go_simp;done)
     |apply Gr.sn;focus(go_simp;intro w' hw';go_simp;rw[Gr.a_];done)
     intro K hK;go_simp;refine hK _ ?_;clear hK K
    refine Gr.o_ fun w4 hw4=>?_
    have HW4:=t_ HW3 hw4
    clear hw4
    go_wp2_with fail
    go_ret
    refine⟨congrArg (fun z=>Ending.returned (.bool z)) ?_,HW4.out⟩
    rw[HPK.out];clear HPK;simp_all[x_]
end Go.Proofs.YtlimlmjljjmcpaaGreatDoor.Px
