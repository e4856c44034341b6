import Derived.Test.YtlimlmjljjmcpaaGreatDoorPxC
import Derived.Test.YtlimlmjljjmcpaaGreatDoorPxB
import Derived.Laws.OwnMore
import Derived.Test.YtlimlmjljjmcpaaGreatDoorGrA
set_option maxHeartbeats 20000000
set_option maxRecDepth 100000
namespace Go.Proofs.YtlimlmjljjmcpaaGreatDoor.Px
open Go Go.RowKit Go.Proofs.YtlimlmjljjmcpaaGreatDoor.Ps
set_option linter.unusedVariables false
set_option linter.unusedSimpArgs false
theorem a7P{vk vi:Int}{vs:S}(h:G_ vk vi vs=true):vs.length<=140737488351232:=by
 unfold G_ at h
 by_cases h0:vk=0
 ·rw[if_pos h0] at h
  simp at h
  simp[h.2]
 rw[if_neg h0] at h
 by_cases h1:vk=1
 ·rw[if_pos h1] at h
  simp at h
  simp[h.1]
 rw[if_neg h1] at h
 by_cases h2:vk=2
 ·rw[if_pos h2] at h
  simp at h
  omega
 rw[if_neg h2] at h
 by_cases h3:vk=3
 ·rw[if_pos h3] at h
  simp at h
  simp[h.1]
 rw[if_neg h3] at h
 cases h
theorem b3e{int vk vi:Int}{vs nm:S}(h:a0o 26 int vk vi vs nm=true):nm.length<=24:=by
 have:a0o 26 int vk vi vs nm=((nameB nm && !(a0u int).isEmpty)&&x_ vk vi vs):=rfl
 rw[this,Bool.and_eq_true,Bool.and_eq_true] at h
 exact(a1a h.1.1).1
theorem b9Y{int vk vi:Int}{vs nm:S}(h:a0o 25 int vk vi vs nm=true):a0k int ≠ []:=by
 have:a0o 25 int vk vi vs nm=(!(a0k int).isEmpty&&(nm.isEmpty&&x_ vk vi vs)):=rfl
 rw[this,Bool.and_eq_true] at h
 intro e
 rw[e] at h
 exact absurd h.1 (by simp)
theorem b9i{l:List X}(h:l.length=2):∃a b,l=[a,b]:=by
 match l,h with
 |[a,b],_=>exact⟨a,b,rfl⟩
theorem L_{op int vk vi:Int}{vs nm:S}{l:List X}{x:X}(hN:nodes (.mk op int vk vi vs nm l)<=1000000){n:Int}(hp:pOk x=true)(hx:x∈l):(opd n x).length<=1000000000:=by
 have h1:=a4X n x
 have h2:=(A_ _ x (Nat.le_refl _) hp).2
 have h3:=M_ hx
 rw[nodes] at hN
 omega
theorem a5u{op int vk vi:Int}{vs nm:S}{l:List X}(hN:nodes (.mk op int vk vi vs nm l)<=1000000)(hpl:∀x∈l,pOk x=true):(Lib.join (l.map txt) [44,32]).length<=1000000000:=by
 have k1:=a3H 0 l fun x hx=>(A_ _ x (Nat.le_refl _) (hpl x hx)).2
 rw[nodes] at hN
 have k2:(Lib.join (P_ 0 l) [44,32]).length<=Lib.lens (P_ 0 l)+2*l.length:=by
  cases l with
  |nil=>simp[P_,Lib.join_nil]
  |cons a l=>
   rw[P_,Lib.join_length,a3l]
   simp
   omega
 rw[b6C] at k1 k2
 omega
theorem a3K{op int vk vi:Int}{vs nm:S}{l:List X}(hN:nodes (.mk op int vk vi vs nm l)<=1000000):l.length<=1000000:=by
 have:=a0B l
 rw[nodes] at hN
 omega
theorem str_eq{a:ByteArray}{s:S}(h:a.data.toList=s):a=⟨s.toArray⟩:=a1W (by rw[h])
theorem Ret.str{w w':World}{a:ByteArray}{s:S}(h:a.data.toList=s)(hb:Below w.heap.size w w'):Ret w (.string ⟨s.toArray⟩) (.returned (.string a)) w':=⟨by rw[str_eq h],hb⟩
theorem b2B(n:Int){x:X}{cs:List Value}{w:World}(h:XR w x cs)(hlen:(txt x).length<=1099511627776)(HI:∀w':World,Below w.heap.size w w'->Calls Tryz.prog 27 #[.agg cs.toArray] w' (Ret w' (.string ⟨(txt x).toArray⟩))) :
  Calls Tryz.prog 67 #[.agg cs.toArray,.int .i64 n] w (Ret w (.string ⟨(opd n x).toArray⟩)):=by
 have HX:=h_ h
 have HI:=h_ HI
 have HT:Hid (opd n x=paren (decide (level x<n)) (txt x)):=h_ rfl
 have HLV:=h_ fun(w':World) (hw':Below w.heap.size w w')=>a8K (h.kept hw' (Nat.le_refl _))
 generalize level x=lv at HT HLV
 obtain⟨op,int,vk,vi,vs,nm,l⟩:=x
 generalize txt (.mk op int vk vi vs nm l)=y at HT hlen HI
 obtain⟨a,m,rfl,hl,hvs,hnm,hl3⟩:=h.lits
 clear h hl
 have y1:¬maxLen<1+y.length:=by unfold maxLen;omega
 have y2:¬maxLen<1+y.length+1:=by unfold maxLen;omega
 have hsz:=mkS y
 go_enter Tryz.func67,Tryz.ntmps67
 go_upto_region 1 with(fail)
 refine nA fun w1 hB hw1 hz1=>?_
 have HW:=h_ hw1
 have HBk:=h_ hB
 obtain⟨p0,p1,p2,p3,p4,p5,p6⟩:=hB.c7
 clear hB hw1 hz1
 go_wp2_with fail
 refine(HLV.out w1 HW.out).mono ?_
 rintro e w2 ⟨rfl,hw2⟩
 have HB2:=h_ (HBk.out.below hw2)
 have HW2:=t_ HW hw2
 clear hw2 HBk HW p0 p1 p2 p3 p4 p5 p6
 obtain⟨p0,p1,p2,p3,p4,p5,p6⟩:=HB2.out.c7
 have HX2:=h_ (Ret.at_ (HI.out w2 HW2.out) HW2.out)
 by_cases hlt:lv<n
 ·have HT2:Hid (opd n (.mk op int vk vi vs nm l)=40::(y++[41])):=h_ (by rw[HT.out,decide_eq_true hlt];rfl)
  go_wp2_with fail
  refine HX2.out.mono ?_
  rintro e w3 ⟨rfl,hw3⟩
  go_wp2_with fail
  go_ret
  rw[HT2.out]
  exact Ret.str (by simp[ByteArray.data_append]) hw3
 ·have HT2:Hid (opd n (.mk op int vk vi vs nm l)=y):=h_ (by rw[HT.out,decide_eq_false hlt];rfl)
  go_wp2_with fail
  refine HX2.out.mono ?_
  rintro e w3 ⟨rfl,hw3⟩
  go_wp2_with fail
  go_ret
  rw[HT2.out]
  exact⟨rfl,hw3⟩
theorem b7h(int vk vi:Int)(vs nm:S)(l:List X)(cs:List Value)(w:World)(hp:pOk (.mk 1 int vk vi vs nm l)=true)(hE:Env w)(h:XR w (.mk 1 int vk vi vs nm l) cs)  :
  Calls Tryz.prog 27 #[.agg cs.toArray] w (Ret w (.string ⟨(txt (.mk 1 int vk vi vs nm l)).toArray⟩)):=by
 have HE:=h_ hE
 have HGOOD:=h_ (A_ _ _ (Nat.le_refl _) hp)
 obtain⟨ha,hpl,hr,hrl⟩:=E_ hp
 obtain⟨a,m,rfl,hl,hvs,hnm,hlen⟩:=h.lits
 have HL:=h_ hl
 have HT:Hid (txt (.mk 1 int vk vi vs nm l)=a2k vk vi vs):=h_ (by rw[a0m];rfl)
 have HVS:Hid (vs.length<=140737488351232):=h_ (by have hv:G_ vk vi vs=true:=(by have:a0o 1 int vk vi vs nm=(G_ vk vi vs&&(decide (int=0)&&nm.isEmpty)):=rfl;rw[this,Bool.and_eq_true] at hr;exact hr.1);exact a7P hv)
 clear hE h hl hp
 go_enter Tryz.func27,Tryz.ntmps27
 go_upto_region 1 with(fail)
 refine nA fun w1 hB hw1 hz1=>?_
 have HW:=h_ hw1
 have HBk:=h_ hB
 have hE1:=HE.out.below hw1
 have HE1:=h_ hE1
 have p0:=hB.cell 0 rfl
 clear hB hw1 hE1 hz1
 have p2:=HBk.out.cell 2 rfl
 have p3:=HBk.out.cell 3 rfl
 have p4:=HBk.out.cell 4 rfl
 go_wp2_with fail
 refine(b2w vk vi vs w1 HVS.out HE1.out).mono ?_
 rintro e w2 ⟨rfl,hw2⟩
 have HW2:=t_ HW hw2
 clear hw2
 go_wp2_with fail
 go_ret
 rw[HT.out]
 exact⟨rfl,HW2.out⟩
theorem b9q(int vk vi:Int)(vs nm:S)(l:List X)(cs:List Value)(w:World)(hp:pOk (.mk 3 int vk vi vs nm l)=true)(hE:Env w)(h:XR w (.mk 3 int vk vi vs nm l) cs)  :
  Calls Tryz.prog 27 #[.agg cs.toArray] w (Ret w (.string ⟨(txt (.mk 3 int vk vi vs nm l)).toArray⟩)):=by
 have HE:=h_ hE
 have HGOOD:=h_ (A_ _ _ (Nat.le_refl _) hp)
 obtain⟨ha,hpl,hr,hrl⟩:=E_ hp
 obtain⟨a,m,rfl,hl,hvs,hnm,hlen⟩:=h.lits
 have HL:=h_ hl
 have HT:Hid (txt (.mk 3 int vk vi vs nm l)=nm):=h_ (by rw[a0m];rfl)
 clear hE h hl hp
 go_enter Tryz.func27,Tryz.ntmps27
 go_upto_region 1 with(fail)
 refine nA fun w1 hB hw1 hz1=>?_
 have HW:=h_ hw1
 have HBk:=h_ hB
 have hE1:=HE.out.below hw1
 have HE1:=h_ hE1
 have p0:=hB.cell 0 rfl
 have p5:=hB.cell 5 rfl
 clear hB hw1 hE1 hz1
 go_wp2_with fail
 go_ret
 rw[HT.out]
 exact⟨rfl,HW.out⟩
theorem b5m(int vk vi:Int)(vs nm:S)(l:List X)(cs:List Value)(w:World)(hp:pOk (.mk 26 int vk vi vs nm l)=true)(hE:Env w)(h:XR w (.mk 26 int vk vi vs nm l) cs)  :
  Calls Tryz.prog 27 #[.agg cs.toArray] w (Ret w (.string ⟨(txt (.mk 26 int vk vi vs nm l)).toArray⟩)):=by
 have HE:=h_ hE
 have HGOOD:=h_ (A_ _ _ (Nat.le_refl _) hp)
 obtain⟨ha,hpl,hr,hrl⟩:=E_ hp
 obtain⟨a,m,rfl,hl,hvs,hnm,hlen⟩:=h.lits
 have HL:=h_ hl
 have HT:Hid (txt (.mk 26 int vk vi vs nm l)=a0u int++40::(nm++[41])):=h_ (by rw[a0m];rfl)
 have hnl:nm.length<=24:=b3e hr
 have hbl:=a6Y int
 have hs1:=mkS nm
 have hs2:=mkS (a0u int)
 clear hE h hl hp
 go_enter Tryz.func27,Tryz.ntmps27
 go_upto_region 1 with(fail)
 refine nA fun w1 hB hw1 hz1=>?_
 have HW:=h_ hw1
 have HBk:=h_ hB
 have hE1:=HE.out.below hw1
 have HE1:=h_ hE1
 have p0:=hB.cell 0 rfl
 clear hB hw1 hE1 hz1
 have HBD:=h_ fun w'=>a8w int w'
 generalize a0u int=bb at HT hbl hs2 HBD
 have y1:¬maxLen<bb.length+1:=by unfold maxLen;omega
 have y2:¬maxLen<bb.length+1+nm.length:=by unfold maxLen;omega
 have y3:¬maxLen<bb.length+1+nm.length+1:=by unfold maxLen;omega
 go_upto_region 7 with(fail)
 have hb0:Below w1.heap.size w1 {w1 with drawn:=w1.drawn+1}:=belowD w1 1
 refine Gr.f_ 8 (by kernel_rfl) (by kernel_rfl) (fun w'=>Below w1.heap.size w1 w') hb0 ?_
 simp only[List.take_succ_cons,List.take_zero,List.drop_succ_cons,List.drop_zero]
 clear p0 hb0
 iterate 8
  first
  |apply Gr.sn (.string ⟨bb.toArray⟩);focus(go_simp;intro w' hw';go_simp;rw[Gr.b_];exact Ret.fam (HBD.out w') hw';done)
  |apply Gr.sn;focus(go_simp;intro w' hw';go_simp;rw[Gr.a_];done)
  |apply Gr.sn;focus(go_simp;intro w' hw';have p1:=(HBk.out.below hw').cell 1 rfl;go_simp;rw[Gr.a_];done)
  |apply Gr.sn;focus(go_simp;intro w' hw';have p5:=(HBk.out.below hw').cell 5 rfl;go_simp;rw[Gr.a_];done)
  |apply Gr.sn;focus(go_simp;intro w' hw';go_simp;rw[if_neg (show ¬9223372036854775807<bb.length+1 by omega),Gr.a_];done)
  |apply Gr.sn;focus(go_simp;intro w' hw';go_simp;rw[if_neg (show ¬9223372036854775807<bb.length+1+nm.length by omega),Gr.a_];done)
  |apply Gr.sn;focus(go_simp;intro w' hw';go_simp;rw[if_neg (show ¬9223372036854775807<bb.length+1+nm.length+1 by omega),Gr.a_];done)
  intro K hK;go_simp;refine hK _ ?_;clear hK K
 refine Gr.o_ fun w4 hw4=>?_
 have HW4:=t_ HW hw4
 clear hw4
 go_wp2_with fail
 go_ret
 rw[HT.out]
 exact Ret.str (by simp[ByteArray.data_append]) HW4.out
theorem c0B(int vk vi:Int)(vs nm:S)(l:List X)(cs:List Value)(w:World)(hp:pOk (.mk 25 int vk vi vs nm l)=true)(hE:Env w)(h:XR w (.mk 25 int vk vi vs nm l) cs)  :
  Calls Tryz.prog 27 #[.agg cs.toArray] w (Ret w (.string ⟨(txt (.mk 25 int vk vi vs nm l)).toArray⟩)):=by
 have HE:=h_ hE
 have HGOOD:=h_ (A_ _ _ (Nat.le_refl _) hp)
 obtain⟨ha,hpl,hr,hrl⟩:=E_ hp
 obtain⟨a,m,rfl,hl,hvs,hnm,hlen⟩:=h.lits
 have HL:=h_ hl
 obtain⟨x0,x1,rfl⟩:=b9i (of_decide_eq_true (show decide (l.length=2)=true from ha))
 have HT:Hid (txt (.mk 25 int vk vi vs nm [x0,x1])=x0.nm++32::(a0k int++32::x1.nm)):=h_ (by rw[a0m];rfl)
 have hn0:=a1a (hrl rfl x0 (by simp)).2
 have hn1:=a1a (hrl rfl x1 (by simp)).2
 have hnr:=b2q int
 have HRN:Hid (a0k int ≠ []):=h_ (b9Y hr)
 clear hE h hl hp
 go_enter Tryz.func27,Tryz.ntmps27
 go_upto_region 1 with(fail)
 refine nA fun w1 hB hw1 hz1=>?_
 have HW:=h_ hw1
 have HBk:=h_ hB
 have hE1:=HE.out.below hw1
 have HE1:=h_ hE1
 have p0:=hB.cell 0 rfl
 clear hB hw1 hE1 hz1
 simp only[List.length_cons,List.length_nil,Nat.zero_add] at *
 obtain⟨g,o,us,eq,hgl,hcell,_,hrx⟩:=HL.out.at_ (k:=0) (by decide)
 subst eq
 obtain⟨g',o',us',eq',hgl',hcell',_,hrx'⟩:=HL.out.at_ (k:=1) (by decide)
 injection eq' with eq'
 injection eq' with eg eo
 subst eg eo
 obtain⟨op0,int0,vk0,vi0,vs0,nm0,l0⟩:=x0
 obtain⟨op1,int1,vk1,vi1,vs1,nm1,l1⟩:=x1
 have hq0:us[5]? = some (.string ⟨nm0.toArray⟩):=by obtain⟨_,_,rfl,_⟩:=(show XR w (.mk op0 int0 vk0 vi0 vs0 nm0 l0) us from hrx).lits;rfl
 have hq1:us'[5]? = some (.string ⟨nm1.toArray⟩):=by obtain⟨_,_,rfl,_⟩:=(show XR w (.mk op1 int1 vk1 vi1 vs1 nm1 l1) us' from hrx').lits;rfl
 have HC0:=h_ (hcell 5 _ hq0)
 have HC1:=h_ (hcell' 5 _ hq1)
 clear hcell hcell' hrx hrx' hq0 hq1
 have HT:Hid (txt (.mk 25 int vk vi vs nm [.mk op0 int0 vk0 vi0 vs0 nm0 l0,.mk op1 int1 vk1 vi1 vs1 nm1 l1])=nm0++32::(a0k int++32::nm1)):=HT
 have hn0:nm0.length<=24/\nm0 ≠ []:=hn0
 have hn1:nm1.length<=24/\nm1 ≠ []:=hn1
 have HBD:=h_ fun w'=>b3J int w'
 generalize a0k int=bb at HT hnr HBD HRN
 go_upto_region 9 with(fail)
 have hb0:Below w1.heap.size w1 {w1 with drawn:=w1.drawn+1}:=belowD w1 1
 refine Gr.f_ 13 (by kernel_rfl) (by kernel_rfl) (fun w'=>Below w1.heap.size w1 w') hb0 ?_
 simp only[List.take_succ_cons,List.take_zero,List.drop_succ_cons,List.drop_zero]
 clear p0 hb0
 iterate 13
  first
  |apply Gr.sn (.string ⟨bb.toArray⟩);focus(go_simp;intro w' hw';go_simp;rw[Gr.b_];exact Ret.fam (HBD.out w') hw';done)
  |apply Gr.sn;focus(go_simp;intro w' hw';go_simp;rw[Gr.a_];done)
  |apply Gr.sn;focus(go_simp;intro w' hw';have p6:=(HBk.out.below hw').cell 6 rfl;go_simp;rw[Gr.a_];done)
  |apply Gr.sn;focus(go_simp;intro w' hw';have p1:=(HBk.out.below hw').cell 1 rfl;go_simp;rw[Gr.a_];done)
  |apply Gr.sn;focus(go_simp;intro w' hw';have q:=((HW.out.trans (hw'.mono HW.out.size)).cell (p:=⟨g,o+1*7+5,none⟩) hgl).trans HC1.out;simp only[Nat.one_mul] at q;go_simp;rw[Gr.a_];done)
  |apply Gr.sn;focus(go_simp;intro w' hw';have q:=((HW.out.trans (hw'.mono HW.out.size)).cell (p:=⟨g,o+0*7+5,none⟩) hgl).trans HC0.out;simp only[Nat.zero_mul,Nat.add_zero] at q;go_simp;rw[Gr.a_];done)
  intro K hK;go_simp;refine hK _ ?_;clear hK K
 refine Gr.o_ fun w4 hw4=>?_
 have HW4:=t_ HW hw4
 clear hw4
 go_wp2_with fail
 refine(a3B [nm0,bb,nm1] (some ⟨w4.heap.size,0,none⟩) 3 _ (by simp) (fun j s hs=>?_) ?_).mono ?_
 ·refine⟨_,_,rfl,by simp,?_⟩
  rcases j with _|_|_|j
  ·injection hs with hs;subst hs;exact(Blk.new w4 [S_ nm0,S_ bb,S_ nm1] 9).cell 0 rfl
  ·injection hs with hs;subst hs;exact(Blk.new w4 [S_ nm0,S_ bb,S_ nm1] 9).cell 1 rfl
  ·injection hs with hs;subst hs;exact(Blk.new w4 [S_ nm0,S_ bb,S_ nm1] 9).cell 2 rfl
  ·cases hs
 ·rw[a9K (by simp[hn0.2,hn1.2,HRN.out])]
  simp[Lib.join_cons,Lib.joinTail]
  omega
 rintro e w5 ⟨rfl,hw5⟩
 have HW5:=h_ ((HW4.out.trans ((d_ w4 _).mono HW4.out.size)).trans (hw5.mono (Nat.le_trans HW4.out.size (by simp))))
 clear hw5
 have hj:Lib.join (jl [nm0,bb,nm1]) [32]=nm0++32::(bb++32::nm1):=by
  rw[a9K (by simp[hn0.2,hn1.2,HRN.out])]
  simp[Lib.join_cons,Lib.joinTail]
 go_wp2_with fail
 go_ret
 rw[HT.out,<-hj]
 exact⟨rfl,HW5.out⟩
theorem b5x(int vk vi:Int)(vs nm:S)(l:List X)(cs:List Value)(w:World)(hp:pOk (.mk 21 int vk vi vs nm l)=true)(hE:Env w)(h:XR w (.mk 21 int vk vi vs nm l) cs)(hN:nodes (.mk 21 int vk vi vs nm l)<=1000000)(HO:∀x∈l,∀(n:Int) (cs:List Value) (w':World),Below w.heap.size w w'->XR w' x cs->Calls Tryz.prog 67 #[.agg cs.toArray,.int .i64 n] w' (Ret w' (.string ⟨(opd n x).toArray⟩))) :
  Calls Tryz.prog 27 #[.agg cs.toArray] w (Ret w (.string ⟨(txt (.mk 21 int vk vi vs nm l)).toArray⟩)):=by
 have HE:=h_ hE
 have HGOOD:=h_ (A_ _ _ (Nat.le_refl _) hp)
 obtain⟨ha,hpl,hr,hrl⟩:=E_ hp
 obtain⟨a,m,rfl,hl,hvs,hnm,hlen⟩:=h.lits
 have HL:=h_ hl
 have HO:=h_ HO
 obtain⟨x0,rfl⟩:=a2b (of_decide_eq_true (show decide (l.length=1)=true from ha))
 have HT:Hid (txt (.mk 21 int vk vi vs nm [x0])=opd 5 x0++[32,73,83,32,78,85,76,76]):=h_ (by rw[a0m];rfl)
 have hol:(opd 5 x0).length<=1000000000:=L_ hN (hpl x0 (by simp)) (by simp)
 have hsz:=mkS (opd 5 x0)
 clear hE h hl hp
 go_enter Tryz.func27,Tryz.ntmps27
 go_upto_region 1 with(fail)
 refine nA fun w1 hB hw1 hz1=>?_
 have HW:=h_ hw1
 have HBk:=h_ hB
 have hE1:=HE.out.below hw1
 have HE1:=h_ hE1
 have p0:=hB.cell 0 rfl
 have p6:=hB.cell 6 rfl
 clear hB hw1 hE1 hz1
 simp only[List.length_cons,List.length_nil,Nat.zero_add] at *
 obtain⟨g,o,us,eq,hgl,hcell,hkx,hrx⟩:=HL.out.at_ (k:=0) (by decide)
 subst eq
 have HX:Hid (XR w x0 us):=h_ hrx
 obtain⟨eop,eint,evk,evi,evs,enm,el,ee⟩:∃eop eint evk evi evs enm el,x0=X.mk eop eint evk evi evs enm el:=by
  cases x0
  exact⟨_,_,_,_,_,_,_,rfl⟩
 have hrx2:=hrx
 have hrx2:XR w (X.mk eop eint evk evi evs enm el) us:=ee ▸ hrx
 obtain⟨ea,em,rfl,_⟩:=hrx2.lits
 have rr:∀j (u:Value),([.int .i64 eop,.int .i64 eint,.int .i64 evk,.int .i64 evi,.string ⟨evs.toArray⟩,.string ⟨enm.toArray⟩,.slice ea el.length em]:List Value)[j]? = some u->w1.cell? ⟨g,o+0*7+j,none⟩=some u:=fun j u hu=>(HW.out.cell (by exact hgl)).trans (hcell j u hu)
 have r0:=rr 0 _ rfl
 have r1:=rr 1 _ rfl
 have r2:=rr 2 _ rfl
 have r3:=rr 3 _ rfl
 have r4:=rr 4 _ rfl
 have r5:=rr 5 _ rfl
 have r6:=rr 6 _ rfl
 simp only[Nat.zero_mul,Nat.add_zero] at r0 r1 r2 r3 r4 r5 r6
 have gl:g<w1.heap.size:=by have:=HW.out.size;omega
 clear rr hcell ee
 have HO1:=h_ (HO.out x0 (by simp) 5 _ w1 HW.out (HX.out.kept HW.out (Nat.le_refl _)))
 clear hrx hrx2 HO
 generalize opd 5 x0=y at HT hol HO1 hsz
 have y0:¬maxLen<y.length+8:=by unfold maxLen;omega
 go_wp2_with fail
 refine HO1.out.mono ?_
 rintro e w2 ⟨rfl,hw2⟩
 have HW2:=t_ HW hw2
 clear hw2
 go_wp2_with fail
 go_ret
 rw[HT.out]
 exact Ret.str (by simp[ByteArray.data_append]) HW2.out
theorem c0h(int vk vi:Int)(vs nm:S)(l:List X)(cs:List Value)(w:World)(hp:pOk (.mk 4 int vk vi vs nm l)=true)(hE:Env w)(h:XR w (.mk 4 int vk vi vs nm l) cs)(hN:nodes (.mk 4 int vk vi vs nm l)<=1000000)(HO:∀x∈l,∀(n:Int) (cs:List Value) (w':World),Below w.heap.size w w'->XR w' x cs->Calls Tryz.prog 67 #[.agg cs.toArray,.int .i64 n] w' (Ret w' (.string ⟨(opd n x).toArray⟩))) :
  Calls Tryz.prog 27 #[.agg cs.toArray] w (Ret w (.string ⟨(txt (.mk 4 int vk vi vs nm l)).toArray⟩)):=by
 have HE:=h_ hE
 have HGOOD:=h_ (A_ _ _ (Nat.le_refl _) hp)
 obtain⟨ha,hpl,hr,hrl⟩:=E_ hp
 obtain⟨a,m,rfl,hl,hvs,hnm,hlen⟩:=h.lits
 have HL:=h_ hl
 have HO:=h_ HO
 obtain⟨x0,rfl⟩:=a2b (of_decide_eq_true (show decide (l.length=1)=true from ha))
 have HT:Hid (txt (.mk 4 int vk vi vs nm [x0])=[78,79,84,32]++opd 3 x0):=h_ (by rw[a0m];rfl)
 have hol:(opd 3 x0).length<=1000000000:=L_ hN (hpl x0 (by simp)) (by simp)
 have hsz:=mkS (opd 3 x0)
 clear hE h hl hp
 go_enter Tryz.func27,Tryz.ntmps27
 go_upto_region 1 with(fail)
 refine nA fun w1 hB hw1 hz1=>?_
 have HW:=h_ hw1
 have HBk:=h_ hB
 have hE1:=HE.out.below hw1
 have HE1:=h_ hE1
 have p0:=hB.cell 0 rfl
 have p6:=hB.cell 6 rfl
 clear hB hw1 hE1 hz1
 simp only[List.length_cons,List.length_nil,Nat.zero_add] at *
 obtain⟨g,o,us,eq,hgl,hcell,hkx,hrx⟩:=HL.out.at_ (k:=0) (by decide)
 subst eq
 have HX:Hid (XR w x0 us):=h_ hrx
 obtain⟨eop,eint,evk,evi,evs,enm,el,ee⟩:∃eop eint evk evi evs enm el,x0=X.mk eop eint evk evi evs enm el:=by
  cases x0
  exact⟨_,_,_,_,_,_,_,rfl⟩
 have hrx2:=hrx
 have hrx2:XR w (X.mk eop eint evk evi evs enm el) us:=ee ▸ hrx
 obtain⟨ea,em,rfl,_⟩:=hrx2.lits
 have rr:∀j (u:Value),([.int .i64 eop,.int .i64 eint,.int .i64 evk,.int .i64 evi,.string ⟨evs.toArray⟩,.string ⟨enm.toArray⟩,.slice ea el.length em]:List Value)[j]? = some u->w1.cell? ⟨g,o+0*7+j,none⟩=some u:=fun j u hu=>(HW.out.cell (by exact hgl)).trans (hcell j u hu)
 have r0:=rr 0 _ rfl
 have r1:=rr 1 _ rfl
 have r2:=rr 2 _ rfl
 have r3:=rr 3 _ rfl
 have r4:=rr 4 _ rfl
 have r5:=rr 5 _ rfl
 have r6:=rr 6 _ rfl
 simp only[Nat.zero_mul,Nat.add_zero] at r0 r1 r2 r3 r4 r5 r6
 have gl:g<w1.heap.size:=by have:=HW.out.size;omega
 clear rr hcell ee
 have HO1:=h_ (HO.out x0 (by simp) 3 _ w1 HW.out (HX.out.kept HW.out (Nat.le_refl _)))
 clear hrx hrx2 HO
 generalize opd 3 x0=y at HT hol HO1 hsz
 have y0:¬maxLen<4+y.length:=by unfold maxLen;omega
 go_wp2_with fail
 refine HO1.out.mono ?_
 rintro e w2 ⟨rfl,hw2⟩
 have HW2:=t_ HW hw2
 clear hw2
 go_wp2_with fail
 go_ret
 rw[HT.out]
 exact Ret.str (by simp[ByteArray.data_append]) HW2.out
theorem c1k(int vk vi:Int)(vs nm:S)(l:List X)(cs:List Value)(w:World)(hp:pOk (.mk 18 int vk vi vs nm l)=true)(hE:Env w)(h:XR w (.mk 18 int vk vi vs nm l) cs)(hN:nodes (.mk 18 int vk vi vs nm l)<=1000000)(HI:∀x∈l,∀(cs:List Value) (w':World),Below w.heap.size w w'->XR w' x cs->Calls Tryz.prog 27 #[.agg cs.toArray] w' (Ret w' (.string ⟨(txt x).toArray⟩)))(HO:∀x∈l,∀(n:Int) (cs:List Value) (w':World),Below w.heap.size w w'->XR w' x cs->Calls Tryz.prog 67 #[.agg cs.toArray,.int .i64 n] w' (Ret w' (.string ⟨(opd n x).toArray⟩))) :
  Calls Tryz.prog 27 #[.agg cs.toArray] w (Ret w (.string ⟨(txt (.mk 18 int vk vi vs nm l)).toArray⟩)):=by
 have HE:=h_ hE
 have HGOOD:=h_ (A_ _ _ (Nat.le_refl _) hp)
 obtain⟨ha,hpl,hr,hrl⟩:=E_ hp
 obtain⟨a,m,rfl,hl,hvs,hnm,hlen⟩:=h.lits
 have HL:=h_ hl
 have HO:=h_ HO
 have HI:=h_ HI
 obtain⟨x0,rfl⟩:=a2b (of_decide_eq_true (show decide (l.length=1)=true from ha))
 have HT:Hid (txt (.mk 18 int vk vi vs nm [x0])=if number x0 then[45,40]++(txt x0++[41]) else 45::opd 8 x0):=h_ (by rw[a0m];show(if number x0=true then[45,40]++(opd 0 x0++[41]) else 45::opd 8 x0)=_;rw[a1M])
 have hol:(opd 8 x0).length<=1000000000:=L_ hN (hpl x0 (by simp)) (by simp)
 have htl:(opd 0 x0).length<=1000000000:=L_ hN (hpl x0 (by simp)) (by simp)
 rw[a1M] at htl
 have hsz:=mkS (opd 8 x0)
 have hsz2:=mkS (txt x0)
 clear hE h hl hp
 go_enter Tryz.func27,Tryz.ntmps27
 go_upto_region 1 with(fail)
 refine nA fun w1 hB hw1 hz1=>?_
 have HW:=h_ hw1
 have HBk:=h_ hB
 have hE1:=HE.out.below hw1
 have HE1:=h_ hE1
 have p0:=hB.cell 0 rfl
 have p6:=hB.cell 6 rfl
 clear hB hw1 hE1 hz1
 simp only[List.length_cons,List.length_nil,Nat.zero_add] at *
 obtain⟨g,o,us,eq,hgl,hcell,hkx,hrx⟩:=HL.out.at_ (k:=0) (by decide)
 subst eq
 have HX:Hid (XR w x0 us):=h_ hrx
 obtain⟨eop,eint,evk,evi,evs,enm,el,ee⟩:∃eop eint evk evi evs enm el,x0=X.mk eop eint evk evi evs enm el:=by
  cases x0
  exact⟨_,_,_,_,_,_,_,rfl⟩
 have hrx2:=hrx
 have hrx2:XR w (X.mk eop eint evk evi evs enm el) us:=ee ▸ hrx
 obtain⟨ea,em,rfl,_⟩:=hrx2.lits
 have rr:∀j (u:Value),([.int .i64 eop,.int .i64 eint,.int .i64 evk,.int .i64 evi,.string ⟨evs.toArray⟩,.string ⟨enm.toArray⟩,.slice ea el.length em]:List Value)[j]? = some u->w1.cell? ⟨g,o+0*7+j,none⟩=some u:=fun j u hu=>(HW.out.cell (by exact hgl)).trans (hcell j u hu)
 have r0:=rr 0 _ rfl
 have r1:=rr 1 _ rfl
 have r2:=rr 2 _ rfl
 have r3:=rr 3 _ rfl
 have r4:=rr 4 _ rfl
 have r5:=rr 5 _ rfl
 have r6:=rr 6 _ rfl
 simp only[Nat.zero_mul,Nat.add_zero] at r0 r1 r2 r3 r4 r5 r6
 have gl:g<w1.heap.size:=by have:=HW.out.size;omega
 clear rr hcell ee
 have HN:=h_ (a7W (HX.out.kept HW.out (Nat.le_refl _)))
 generalize number x0=nb at HT HN
 have HO1:=h_ fun(w':World) (hw':Below w.heap.size w w')=>HO.out x0 (by simp) 8 _ w' hw' (HX.out.kept hw' (Nat.le_refl _))
 have HI1:=h_ fun(w':World) (hw':Below w.heap.size w w')=>HI.out x0 (by simp) _ w' hw' (HX.out.kept hw' (Nat.le_refl _))
 clear hrx hrx2 HO HI
 generalize opd 8 x0=y at HT hol HO1 hsz
 generalize txt x0=z at HT htl HI1 hsz2
 have y0:¬maxLen<1+y.length:=by unfold maxLen;omega
 have y1:¬maxLen<2+z.length:=by unfold maxLen;omega
 have y2:¬maxLen<2+z.length+1:=by unfold maxLen;omega
 go_wp2_with fail
 refine HN.out.mono ?_
 rintro e w2 ⟨rfl,hw2⟩
 have HB2:=h_ (HBk.out.below hw2)
 have HWa:=t_ HW hw2
 have p6:=HB2.out.cell 6 rfl
 have s0:=(hw2.cell gl).trans r0
 have s1:=(hw2.cell gl).trans r1
 have s2:=(hw2.cell gl).trans r2
 have s3:=(hw2.cell gl).trans r3
 have s4:=(hw2.cell gl).trans r4
 have s5:=(hw2.cell gl).trans r5
 have s6:=(hw2.cell gl).trans r6
 have gl2:g<w2.heap.size:=Nat.lt_of_lt_of_le gl hw2.size
 clear hw2 HBk HN r0 r1 r2 r3 r4 r5 r6
 have HO2:=h_ (HO1.out w2 HWa.out)
 have HI2:=h_ (HI1.out w2 HWa.out)
 clear HO1 HI1
 cases nb
 ·go_wp2_with fail
  refine HO2.out.mono ?_
  rintro e w3 ⟨rfl,hw3⟩
  have HW3:=t_ HWa hw3
  clear hw3
  go_wp2_with fail
  go_ret
  rw[HT.out]
  exact Ret.str (by simp[ByteArray.data_append]) HW3.out
 ·go_wp2_with fail
  refine HI2.out.mono ?_
  rintro e w3 ⟨rfl,hw3⟩
  have HW3:=t_ HWa hw3
  clear hw3
  go_wp2_with fail
  go_ret
  rw[HT.out]
  exact Ret.str (by simp[ByteArray.data_append]) HW3.out
theorem b4D(int vk vi:Int)(vs nm:S)(l:List X)(cs:List Value)(w:World)(hp:pOk (.mk 20 int vk vi vs nm l)=true)(hE:Env w)(h:XR w (.mk 20 int vk vi vs nm l) cs)(hN:nodes (.mk 20 int vk vi vs nm l)<=1000000)(HI:∀x∈l,∀(cs:List Value) (w':World),Below w.heap.size w w'->XR w' x cs->Calls Tryz.prog 27 #[.agg cs.toArray] w' (Ret w' (.string ⟨(txt x).toArray⟩))) :
  Calls Tryz.prog 27 #[.agg cs.toArray] w (Ret w (.string ⟨(txt (.mk 20 int vk vi vs nm l)).toArray⟩)):=by
 have HE:=h_ hE
 have HGOOD:=h_ (A_ _ _ (Nat.le_refl _) hp)
 obtain⟨ha,hpl,hr,hrl⟩:=E_ hp
 obtain⟨a,m,rfl,hl,hvs,hnm,hlen⟩:=h.lits
 have HL:=h_ hl
 have HI:=h_ HI
 have HT:Hid (txt (.mk 20 int vk vi vs nm l)=W_ 20++40::(Lib.join (l.map txt) [44,32]++[41])):=h_ (by rw[a0m,<-b6C];rfl)
 have hjl:(Lib.join (l.map txt) [44,32]).length<=1000000000:=a5u hN hpl
 have hll:l.length<=1000000:=a3K hN
 have hsl:=a2G 20
 have hs2:=mkS (W_ 20)
 have hs3:=mkS (Lib.join (l.map txt) [44,32])
 clear hE h hl hp
 go_enter Tryz.func27,Tryz.ntmps27
 go_upto_region 1 with(fail)
 refine nA fun w1 hB hw1 hz1=>?_
 have HW:=h_ hw1
 have HBk:=h_ hB
 have hE1:=HE.out.below hw1
 have HE1:=h_ hE1
 have p0:=hB.cell 0 rfl
 clear hB hw1 hE1 hz1
 have HSG:=h_ fun w'=>a4M 20 w'
 have HTX:=h_ fun(w':World) (hw':Below w.heap.size w w')=>a5r l a m w' (by omega) (HL.out.kept hw' (Nat.le_refl _)) (by omega) (fun x hx cs w2 hb hr=>HI.out x hx cs w2 (hw'.trans (hb.mono hw'.size)) hr)
 clear HI
 generalize Lib.join (l.map txt) [44,32]=z at HT hjl hs3 HTX
 generalize W_ 20=sg at HT hsl hs2 HSG
 have y0:¬maxLen<sg.length+1:=by unfold maxLen;omega
 have y1:¬maxLen<sg.length+1+z.length:=by unfold maxLen;omega
 have y2:¬maxLen<sg.length+1+z.length+1:=by unfold maxLen;omega
 go_upto_region 21 with(fail)
 have hb0:Below w1.heap.size w1 {w1 with drawn:=w1.drawn+1}:=belowD w1 1
 refine Gr.f_ 9 (by kernel_rfl) (by kernel_rfl) (fun w'=>Below w1.heap.size w1 w') hb0 ?_
 simp only[List.take_succ_cons,List.take_zero,List.drop_succ_cons,List.drop_zero]
 clear p0 hb0
 iterate 2
  first
  |apply Gr.sn;focus(go_simp;intro w' hw';go_simp;rw[Gr.a_];done)
  |apply Gr.sn;focus(go_simp;intro w' hw';have p0:=(HBk.out.below hw').cell 0 rfl;go_simp;rw[Gr.a_];done)
  intro K hK;go_simp;refine hK _ ?_;clear hK K
 refine Gr.sn (.string ⟨sg.toArray⟩) (by go_simp;intro w' hw';go_simp;rw[Gr.b_];exact Ret.fam (HSG.out w') hw') fun K hK=>?_;go_simp;refine hK _ ?_;clear hK K
 iterate 3
  first
  |apply Gr.sn;focus(go_simp;intro w' hw';go_simp;rw[Gr.a_];done)
  |apply Gr.sn;focus(go_simp;intro w' hw';have p6:=(HBk.out.below hw').cell 6 rfl;go_simp;rw[Gr.a_];done)
  |apply Gr.sn;focus(go_simp;intro w' hw';go_simp;rw[if_neg (show ¬9223372036854775807<sg.length+1 by omega),Gr.a_];done)
  intro K hK;go_simp;refine hK _ ?_;clear hK K
 refine Gr.sn (.string ⟨z.toArray⟩) (by go_simp;intro w' hw';go_simp;rw[Gr.b_];exact Ret.fam (HTX.out w' (HW.out.trans (hw'.mono HW.out.size))) hw') fun K hK=>?_;go_simp;refine hK _ ?_;clear hK K
 iterate 2
  first
  |apply Gr.sn;focus(go_simp;intro w' hw';go_simp;rw[if_neg (show ¬9223372036854775807<sg.length+1+z.length by omega),Gr.a_];done)
  |apply Gr.sn;focus(go_simp;intro w' hw';go_simp;rw[if_neg (show ¬9223372036854775807<sg.length+1+z.length+1 by omega),Gr.a_];done)
  intro K hK;go_simp;refine hK _ ?_;clear hK K
 refine Gr.o_ fun w4 hw4=>?_
 have HW4:=t_ HW hw4
 clear hw4
 go_wp2_with fail
 go_ret
 rw[HT.out]
 exact Ret.str (by simp[ByteArray.data_append]) HW4.out
theorem c2k(int vk vi:Int)(vs nm:S)(l:List X)(cs:List Value)(w:World)(hp:pOk (.mk 22 int vk vi vs nm l)=true)(hE:Env w)(h:XR w (.mk 22 int vk vi vs nm l) cs)(hN:nodes (.mk 22 int vk vi vs nm l)<=1000000)(HI:∀x∈l,∀(cs:List Value) (w':World),Below w.heap.size w w'->XR w' x cs->Calls Tryz.prog 27 #[.agg cs.toArray] w' (Ret w' (.string ⟨(txt x).toArray⟩))) :
  Calls Tryz.prog 27 #[.agg cs.toArray] w (Ret w (.string ⟨(txt (.mk 22 int vk vi vs nm l)).toArray⟩)):=by
 have HE:=h_ hE
 have HGOOD:=h_ (A_ _ _ (Nat.le_refl _) hp)
 obtain⟨ha,hpl,hr,hrl⟩:=E_ hp
 obtain⟨a,m,rfl,hl,hvs,hnm,hlen⟩:=h.lits
 have HL:=h_ hl
 have HI:=h_ HI
 have HT:Hid (txt (.mk 22 int vk vi vs nm l)=W_ 22++40::(Lib.join (l.map txt) [44,32]++[41])):=h_ (by rw[a0m,<-b6C];rfl)
 have hjl:(Lib.join (l.map txt) [44,32]).length<=1000000000:=a5u hN hpl
 have hll:l.length<=1000000:=a3K hN
 have hsl:=a2G 22
 have hs2:=mkS (W_ 22)
 have hs3:=mkS (Lib.join (l.map txt) [44,32])
 clear hE h hl hp
 go_enter Tryz.func27,Tryz.ntmps27
 go_upto_region 1 with(fail)
 refine nA fun w1 hB hw1 hz1=>?_
 have HW:=h_ hw1
 have HBk:=h_ hB
 have hE1:=HE.out.below hw1
 have HE1:=h_ hE1
 have p0:=hB.cell 0 rfl
 clear hB hw1 hE1 hz1
 have HSG:=h_ fun w'=>a4M 22 w'
 have HTX:=h_ fun(w':World) (hw':Below w.heap.size w w')=>a5r l a m w' (by omega) (HL.out.kept hw' (Nat.le_refl _)) (by omega) (fun x hx cs w2 hb hr=>HI.out x hx cs w2 (hw'.trans (hb.mono hw'.size)) hr)
 clear HI
 generalize Lib.join (l.map txt) [44,32]=z at HT hjl hs3 HTX
 generalize W_ 22=sg at HT hsl hs2 HSG
 have y0:¬maxLen<sg.length+1:=by unfold maxLen;omega
 have y1:¬maxLen<sg.length+1+z.length:=by unfold maxLen;omega
 have y2:¬maxLen<sg.length+1+z.length+1:=by unfold maxLen;omega
 go_upto_region 21 with(fail)
 have hb0:Below w1.heap.size w1 {w1 with drawn:=w1.drawn+1}:=belowD w1 1
 refine Gr.f_ 9 (by kernel_rfl) (by kernel_rfl) (fun w'=>Below w1.heap.size w1 w') hb0 ?_
 simp only[List.take_succ_cons,List.take_zero,List.drop_succ_cons,List.drop_zero]
 clear p0 hb0
 iterate 2
  first
  |apply Gr.sn;focus(go_simp;intro w' hw';go_simp;rw[Gr.a_];done)
  |apply Gr.sn;focus(go_simp;intro w' hw';have p0:=(HBk.out.below hw').cell 0 rfl;go_simp;rw[Gr.a_];done)
  intro K hK;go_simp;refine hK _ ?_;clear hK K
 refine Gr.sn (.string ⟨sg.toArray⟩) (by go_simp;intro w' hw';go_simp;rw[Gr.b_];exact Ret.fam (HSG.out w') hw') fun K hK=>?_;go_simp;refine hK _ ?_;clear hK K
 iterate 3
  first
  |apply Gr.sn;focus(go_simp;intro w' hw';go_simp;rw[Gr.a_];done)
  |apply Gr.sn;focus(go_simp;intro w' hw';have p6:=(HBk.out.below hw').cell 6 rfl;go_simp;rw[Gr.a_];done)
  |apply Gr.sn;focus(go_simp;intro w' hw';go_simp;rw[if_neg (show ¬9223372036854775807<sg.length+1 by omega),Gr.a_];done)
  intro K hK;go_simp;refine hK _ ?_;clear hK K
 refine Gr.sn (.string ⟨z.toArray⟩) (by go_simp;intro w' hw';go_simp;rw[Gr.b_];exact Ret.fam (HTX.out w' (HW.out.trans (hw'.mono HW.out.size))) hw') fun K hK=>?_;go_simp;refine hK _ ?_;clear hK K
 iterate 2
  first
  |apply Gr.sn;focus(go_simp;intro w' hw';go_simp;rw[if_neg (show ¬9223372036854775807<sg.length+1+z.length by omega),Gr.a_];done)
  |apply Gr.sn;focus(go_simp;intro w' hw';go_simp;rw[if_neg (show ¬9223372036854775807<sg.length+1+z.length+1 by omega),Gr.a_];done)
  intro K hK;go_simp;refine hK _ ?_;clear hK K
 refine Gr.o_ fun w4 hw4=>?_
 have HW4:=t_ HW hw4
 clear hw4
 go_wp2_with fail
 go_ret
 rw[HT.out]
 exact Ret.str (by simp[ByteArray.data_append]) HW4.out
theorem b2e(int vk vi:Int)(vs nm:S)(l:List X)(cs:List Value)(w:World)(hp:pOk (.mk 23 int vk vi vs nm l)=true)(hE:Env w)(h:XR w (.mk 23 int vk vi vs nm l) cs)(hN:nodes (.mk 23 int vk vi vs nm l)<=1000000)(HI:∀x∈l,∀(cs:List Value) (w':World),Below w.heap.size w w'->XR w' x cs->Calls Tryz.prog 27 #[.agg cs.toArray] w' (Ret w' (.string ⟨(txt x).toArray⟩))) :
  Calls Tryz.prog 27 #[.agg cs.toArray] w (Ret w (.string ⟨(txt (.mk 23 int vk vi vs nm l)).toArray⟩)):=by
 have HE:=h_ hE
 have HGOOD:=h_ (A_ _ _ (Nat.le_refl _) hp)
 obtain⟨ha,hpl,hr,hrl⟩:=E_ hp
 obtain⟨a,m,rfl,hl,hvs,hnm,hlen⟩:=h.lits
 have HL:=h_ hl
 have HI:=h_ HI
 have HT:Hid (txt (.mk 23 int vk vi vs nm l)=W_ 23++40::(Lib.join (l.map txt) [44,32]++[41])):=h_ (by rw[a0m,<-b6C];rfl)
 have hjl:(Lib.join (l.map txt) [44,32]).length<=1000000000:=a5u hN hpl
 have hll:l.length<=1000000:=a3K hN
 have hsl:=a2G 23
 have hs2:=mkS (W_ 23)
 have hs3:=mkS (Lib.join (l.map txt) [44,32])
 clear hE h hl hp
 go_enter Tryz.func27,Tryz.ntmps27
 go_upto_region 1 with(fail)
 refine nA fun w1 hB hw1 hz1=>?_
 have HW:=h_ hw1
 have HBk:=h_ hB
 have hE1:=HE.out.below hw1
 have HE1:=h_ hE1
 have p0:=hB.cell 0 rfl
 clear hB hw1 hE1 hz1
 have HSG:=h_ fun w'=>a4M 23 w'
 have HTX:=h_ fun(w':World) (hw':Below w.heap.size w w')=>a5r l a m w' (by omega) (HL.out.kept hw' (Nat.le_refl _)) (by omega) (fun x hx cs w2 hb hr=>HI.out x hx cs w2 (hw'.trans (hb.mono hw'.size)) hr)
 clear HI
 generalize Lib.join (l.map txt) [44,32]=z at HT hjl hs3 HTX
 generalize W_ 23=sg at HT hsl hs2 HSG
 have y0:¬maxLen<sg.length+1:=by unfold maxLen;omega
 have y1:¬maxLen<sg.length+1+z.length:=by unfold maxLen;omega
 have y2:¬maxLen<sg.length+1+z.length+1:=by unfold maxLen;omega
 go_upto_region 21 with(fail)
 have hb0:Below w1.heap.size w1 {w1 with drawn:=w1.drawn+1}:=belowD w1 1
 refine Gr.f_ 9 (by kernel_rfl) (by kernel_rfl) (fun w'=>Below w1.heap.size w1 w') hb0 ?_
 simp only[List.take_succ_cons,List.take_zero,List.drop_succ_cons,List.drop_zero]
 clear p0 hb0
 iterate 2
  first
  |apply Gr.sn;focus(go_simp;intro w' hw';go_simp;rw[Gr.a_];done)
  |apply Gr.sn;focus(go_simp;intro w' hw';have p0:=(HBk.out.below hw').cell 0 rfl;go_simp;rw[Gr.a_];done)
  intro K hK;go_simp;refine hK _ ?_;clear hK K
 refine Gr.sn (.string ⟨sg.toArray⟩) (by go_simp;intro w' hw';go_simp;rw[Gr.b_];exact Ret.fam (HSG.out w') hw') fun K hK=>?_;go_simp;refine hK _ ?_;clear hK K
 iterate 3
  first
  |apply Gr.sn;focus(go_simp;intro w' hw';go_simp;rw[Gr.a_];done)
  |apply Gr.sn;focus(go_simp;intro w' hw';have p6:=(HBk.out.below hw').cell 6 rfl;go_simp;rw[Gr.a_];done)
  |apply Gr.sn;focus(go_simp;intro w' hw';go_simp;rw[if_neg (show ¬9223372036854775807<sg.length+1 by omega),Gr.a_];done)
  intro K hK;go_simp;refine hK _ ?_;clear hK K
 refine Gr.sn (.string ⟨z.toArray⟩) (by go_simp;intro w' hw';go_simp;rw[Gr.b_];exact Ret.fam (HTX.out w' (HW.out.trans (hw'.mono HW.out.size))) hw') fun K hK=>?_;go_simp;refine hK _ ?_;clear hK K
 iterate 2
  first
  |apply Gr.sn;focus(go_simp;intro w' hw';go_simp;rw[if_neg (show ¬9223372036854775807<sg.length+1+z.length by omega),Gr.a_];done)
  |apply Gr.sn;focus(go_simp;intro w' hw';go_simp;rw[if_neg (show ¬9223372036854775807<sg.length+1+z.length+1 by omega),Gr.a_];done)
  intro K hK;go_simp;refine hK _ ?_;clear hK K
 refine Gr.o_ fun w4 hw4=>?_
 have HW4:=t_ HW hw4
 clear hw4
 go_wp2_with fail
 go_ret
 rw[HT.out]
 exact Ret.str (by simp[ByteArray.data_append]) HW4.out
def mF(F n:Int)(sg:S)(x0:X)(D:List X):List S:=opd F x0::D.flatMap fun b=>[sg,opd n b]
def mG(A:S)(N:X->S)(sg:S)(D:List X):List S:=A::D.flatMap fun b=>[sg,N b]
theorem c1i{A:S}{N:X->S}{sg:S}{D:List X}{k:Nat}(h:k<D.length):mG A N sg (D.take (k+1))=mG A N sg (D.take k)++[sg,N D[k]]:=by
 unfold mG
 rw[List.take_succ_eq_append_getElem h,List.flatMap_append]
 simp
theorem b9K(A:S)(N:X->S)(sg:S)(D:List X):(mG A N sg D).length=2*D.length+1:=by
 unfold mG
 induction D with
 |nil=>rfl
 |cons a D ih=>simp only[List.flatMap_cons,List.length_cons,List.length_append,List.length_nil] at ih |-;omega
def Chain(op:Int):Prop:=op ≠ 1/\op ≠ 3/\op ≠ 26/\op ≠ 25/\op ≠ 21/\op ≠ 4/\op ≠ 18/\op ≠ 22/\op ≠ 23/\op ≠ 20
theorem c0y{op:Int}{n:Nat}(h:a0D op n=true)(hc:Chain op):W_ op ≠ []:=by
 obtain⟨n1,n2,n3,n4,n5,n6,n7,n8,n9,n10⟩:=hc
 intro e
 unfold W_ at e
 by_cases h5:op=5
 ·rw[if_pos h5] at e;cases e
 rw[if_neg h5] at e
 by_cases h6:op=6
 ·rw[if_pos h6] at e;cases e
 rw[if_neg h6] at e
 by_cases h7:op=7
 ·rw[if_pos h7] at e;cases e
 rw[if_neg h7] at e
 by_cases h8:op=8
 ·rw[if_pos h8] at e;cases e
 rw[if_neg h8] at e
 by_cases h9:op=9
 ·rw[if_pos h9] at e;cases e
 rw[if_neg h9] at e
 by_cases h10:op=10
 ·rw[if_pos h10] at e;cases e
 rw[if_neg h10] at e
 by_cases h11:op=11
 ·rw[if_pos h11] at e;cases e
 rw[if_neg h11] at e
 by_cases h12:op=12
 ·rw[if_pos h12] at e;cases e
 rw[if_neg h12] at e
 by_cases h13:op=13
 ·rw[if_pos h13] at e;cases e
 rw[if_neg h13] at e
 by_cases h14:op=14
 ·rw[if_pos h14] at e;cases e
 rw[if_neg h14] at e
 by_cases h15:op=15
 ·rw[if_pos h15] at e;cases e
 rw[if_neg h15] at e
 by_cases h16:op=16
 ·rw[if_pos h16] at e;cases e
 rw[if_neg h16] at e
 by_cases h17:op=17
 ·rw[if_pos h17] at e;cases e
 rw[if_neg h17] at e
 by_cases h19:op=19
 ·rw[if_pos h19] at e;cases e
 unfold a0D at h
 rw[if_neg (by omega),if_neg (by omega),if_neg (by omega),if_neg (by omega),if_neg (by omega),if_neg (by omega)] at h
 cases h
theorem b7k{op:Int}{n:Nat}(h:a0D op n=true)(hc:Chain op):2<=n:=by
 obtain⟨n1,n2,n3,n4,n5,n6,n7,n8,n9,n10⟩:=hc
 unfold a0D at h
 rw[if_neg (by omega),if_neg (by omega)] at h
 repeat' split at h
 all_goals(first|(exfalso;omega)|(have:=of_decide_eq_true h;omega)|(exact absurd h (by simp)))
theorem b0X{op int vk vi:Int}{vs nm:S}{l:List X}{F n:Int}(hc:Chain op)(hl:2<=l.length)(hF:a6i (R_ op vk vi)=F)(hn:R_ op vk vi+1=n):txt (.mk op int vk vi vs nm l)=Lib.join (mF F n (W_ op) (l[0]'(by omega)) (l.drop 1)) [32]:=by
 obtain⟨n1,n2,n3,n4,n5,n6,n7,n8,n9,n10⟩:=hc
 obtain⟨a,b,r,rfl⟩:=a5W hl
 rw[a0m]
 unfold b6d
 rw[if_neg n1,if_neg n2,if_neg n3,if_neg n4,if_neg n5,if_neg n6,if_neg n7,if_neg (by omega),hF,hn]
 show Lib.join (opd F a::P_ n (b::r)) (32::(W_ op++[32]))=_
 rw[a4l,<-b5d]
 unfold mF
 rw[List.flatMap_map]
 rfl
theorem c0W{op:Int}{k:Nat}{F n:Int}{x0:X}{D:List X}(ha:a0D op k=true)(hc:Chain op)(h0:pOk x0=true)(hD:∀x∈D,pOk x=true):jl (mF F n (W_ op) x0 D)=mF F n (W_ op) x0 D:=by
 refine a9K fun s hs=>?_
 unfold mF at hs
 rcases List.mem_cons.1 hs with rfl|hs
 ·exact b4c (A_ _ x0 (Nat.le_refl _) h0).1
 ·obtain⟨b,hb,hs⟩:=List.mem_flatMap.1 hs
  simp only[List.mem_cons,List.not_mem_nil,or_false] at hs
  rcases hs with rfl|rfl
  ·exact c0y ha hc
  ·exact b4c (A_ _ b (Nat.le_refl _) (hD b hb)).1
theorem b8x{K:World->Prop}{w:World}{B n:Nat}{cs:Array Value}(hb:B<=w.heap.size)(hm:n<=maxLen)(hs:cs.size=n*1)(h:∀w',w'.ownsRow B 9 1 (.slice (some ⟨w.heap.size,0,none⟩) n n) n cs.toList->Below w.heap.size w w'->K w'):K (w.alloc (.cells cs 9)):=
 h _ (World.ownsRow_lit w cs n hb hm hs) (d_ w _)
theorem b8b(w:World)(u v:Value)(e:TypeId):∀j x,[u,v][j]? = some x->(w.alloc (.cells #[u,v] e)).cell? ((⟨w.heap.size,0,none⟩:Addr).add j)=some x:=by
 intro j x hj
 match j,hj with
 |0,hj=>obtain rfl:=Option.some.inj hj;exact(Blk.new w [u,v] e).cell 0 rfl
 |1,hj=>obtain rfl:=Option.some.inj hj;exact(Blk.new w [u,v] e).cell 1 rfl
theorem a0z.c2t{B:Nat}{v:Value}{M:List S}{s t:S}{w:World}(h:w.ownsRow B 9 1 v (M.length+2) (M.map S_++[.string ⟨s.toArray⟩,.string ⟨t.toArray⟩])):a0z B v (M++[s,t]) w:=by
 unfold a0z
 rw[List.length_append,List.map_append]
 exact h
def c2C(w:World)(M:List X->List S)(D:List X)(v i:Value)(wr:World):Prop:=
 ∃k:Nat,k<=D.length/\i=.int .i64 k/\a0z w.heap.size v (M (D.take k)) wr/\Below w.heap.size w wr
theorem XL.cap{w:World}{l:List X}{a:Option Addr}{n m:Nat}(h:XL w l (.slice a n m)):n<=m:=by
 obtain⟨a',n',m',xs',e1,_,_,h4,_,_⟩:=Rp.I_ Tryz.underlying24 h
 injection e1 with e1 _
 injection e1 with _ e2 e3
 omega
theorem a3E(lv F n:Int)(hc:lv=1/\F=2/\n=2\/lv=2/\F=3/\n=3\/lv=4/\F=5/\n=5\/lv=5/\F=5/\n=6\/lv=6/\F=6/\n=7)(op int vk vi:Int)(vs nm:S)(l:List X)(cs:List Value)(w:World)(hch:Chain op)(hlv:R_ op vk vi=lv)(hN:nodes (.mk op int vk vi vs nm l)<=1000000)(hp:pOk (.mk op int vk vi vs nm l)=true)(hE:Env w)(h:XR w (.mk op int vk vi vs nm l) cs)(HO:∀x∈l,∀(n:Int) (cs:List Value) (w':World),Below w.heap.size w w'->XR w' x cs->Calls Tryz.prog 67 #[.agg cs.toArray,.int .i64 n] w' (Ret w' (.string ⟨(opd n x).toArray⟩))) :
  Calls Tryz.prog 27 #[.agg cs.toArray] w (Ret w (.string ⟨(txt (.mk op int vk vi vs nm l)).toArray⟩)):=by
 obtain⟨i0,hi0,hz0,hz1,hz2⟩:=info_parts a4n
 have HE:=h_ hE
 have HO:=h_ HO
 obtain⟨ha,hpl,hr,hrl⟩:=E_ hp
 have h2:=b7k ha hch
 have hF:a6i lv=F/\lv+1=n:=by rcases hc with⟨rfl,rfl,rfl⟩|⟨rfl,rfl,rfl⟩|⟨rfl,rfl,rfl⟩|⟨rfl,rfl,rfl⟩|⟨rfl,rfl,rfl⟩<;>exact⟨rfl,rfl⟩
 have HT:Hid (txt (.mk op int vk vi vs nm l)=Lib.join (mG (opd F (l[0]'(by omega))) (opd n) (W_ op) (l.drop 1)) [32]):=h_ (b0X (int:=int) (vs:=vs) (nm:=nm) hch h2 (by rw[hlv];exact hF.1) (by rw[hlv];exact hF.2))
 have HJ:Hid (jl (mG (opd F (l[0]'(by omega))) (opd n) (W_ op) (l.drop 1))=mG (opd F (l[0]'(by omega))) (opd n) (W_ op) (l.drop 1)):=h_ (c0W ha hch (hpl _ (List.getElem_mem _)) fun x hx=>hpl x (List.mem_of_mem_drop hx))
 have HLN:Hid ((Lib.join (mG (opd F (l[0]'(by omega))) (opd n) (W_ op) (l.drop 1)) [32]).length<=1000000000):=h_ (by rw[<-HT.out];have:=(A_ _ _ (Nat.le_refl _) hp).2;omega)
 have HLV:Hid (∀w':World,Below w.heap.size w w'->Calls Tryz.prog 71 #[.agg cs.toArray] w' (Ret w' (.int .i64 lv))):=h_ fun w' hw'=>by
  have:=a8K (h.kept hw' (Nat.le_refl _))
  rwa [show level (.mk op int vk vi vs nm l)=lv from hlv] at this
 have HSG:=h_ fun w'=>a4M op w'
 have hll:l.length<=1000000:=a3K hN
 obtain⟨q,hq⟩:∃q,l.length=q+2:=⟨l.length - 2,by omega⟩
 obtain⟨a,m,rfl,hl,hvs,hnm,hlen⟩:=h.lits
 have hqm:q+2<=m:=by have:=hl.cap;omega
 have HL:=h_ hl
 have HQ:=h_ hq
 have HP:=h_ hpl
 obtain⟨n1,n2,n3,n4,n5,n6,n7,n8,n9,n10⟩:=hch
 have HOF:=h_ fun(cs:List Value) (w':World) (hw':Below w.heap.size w w') (hx:XR w' (l[0]'(by omega)) cs)=>HO.out (l[0]'(by omega)) (List.getElem_mem _) F cs w' hw' hx
 have HON:=h_ fun(x:X) (hm:x∈l) (cs:List Value) (w':World) (hw':Below w.heap.size w w') (hx:XR w' x cs)=>HO.out x hm n cs w' hw' hx
 clear HO hF
 generalize opd F (l[0]'(by omega))=A0 at HT HJ HLN HOF
 generalize opd n=N at HT HJ HLN HON
 have b1:(op==1)=false:=by simpa using n1
 have b2:(op==3)=false:=by simpa using n2
 have b3:(op==26)=false:=by simpa using n3
 have b4:(op==25)=false:=by simpa using n4
 have b5:(op==21)=false:=by simpa using n5
 have b6:(op==4)=false:=by simpa using n6
 have b7:(op==18)=false:=by simpa using n7
 have b8:(op==22)=false:=by simpa using n8
 have b9:(op==23)=false:=by simpa using n9
 have b10:(op==20)=false:=by simpa using n10
 clear hE h hl hp ha hr hrl hpl hlv hN n1 n2 n3 n4 n5 n6 n7 n8 n9 n10
 generalize W_ op=sg at HT HJ HLN HSG
 generalize txt (.mk op int vk vi vs nm l)=TX at HT |-
 rw[hq] at HL HLV |-
 rcases hc with⟨rfl,rfl,rfl⟩|⟨rfl,rfl,rfl⟩|⟨rfl,rfl,rfl⟩|⟨rfl,rfl,rfl⟩|⟨rfl,rfl,rfl⟩
 all_goals
  go_enter Tryz.func27,Tryz.ntmps27
  go_upto_region 1 with(fail)
  refine nA fun w1 hB hw1 hz1=>?_
  have HW:=h_ hw1
  have HBk:=h_ hB
  have hE1:=HE.out.below hw1
  have HE1:=h_ hE1
  have p0:=hB.cell 0 rfl
  clear hB hw1 hE1 hz1
  go_upto_region 22 with(fail)
  have hb0:Below w1.heap.size w1 {w1 with drawn:=w1.drawn+1}:=belowD w1 1
  refine Gr.f_ 6 (by kernel_rfl) (by kernel_rfl) (fun w'=>Below w1.heap.size w1 w') hb0 ?_
  simp only[List.take_succ_cons,List.take_zero,List.drop_succ_cons,List.drop_zero]
  clear p0 hb0
  iterate 6
   first
   |apply Gr.sn (.int .i64 _);focus(go_simp;intro w' hw';go_simp;rw[Gr.b_];exact Ret.fam (HLV.out w' (HW.out.trans (hw'.mono HW.out.size))) hw';done)
   |apply Gr.sn (.int .i64 _);focus(go_simp;intro w' hw';go_simp;rw[Gr.a_];all_goals rfl;done)
   |apply Gr.sn;focus(go_simp;intro w' hw';go_simp;rw[Gr.a_];done)
   |apply Gr.sn;focus(go_simp;intro w' hw';have p0:=(HBk.out.below hw').cell 0 rfl;have p1:=(HBk.out.below hw').cell 1 rfl;have p2:=(HBk.out.below hw').cell 2 rfl;have p3:=(HBk.out.below hw').cell 3 rfl;have p4:=(HBk.out.below hw').cell 4 rfl;have p5:=(HBk.out.below hw').cell 5 rfl;have p6:=(HBk.out.below hw').cell 6 rfl;go_simp;rw[Gr.a_];done)
   intro K hK;go_simp;refine hK _ ?_;clear hK K
  refine Gr.o_ fun w4 hw4=>?_
  have HB4:=h_ (HBk.out.below hw4)
  have HW4:=t_ HW hw4
  clear hw4 HBk HW HLV
  have p6:=HB4.out.cell 6 rfl
  obtain⟨g,o,us,eq,hgl,hcell,hkx,hrx⟩:=HL.out.at_ (k:=0) (by omega)
  subst eq
  have HX:Hid (XR w l[0] us):=h_ hrx
  obtain⟨eop,eint,evk,evi,evs,enm,el,ee⟩:∃eop eint evk evi evs enm el,l[0]=X.mk eop eint evk evi evs enm el:=by
   cases l[0]
   exact⟨_,_,_,_,_,_,_,rfl⟩
  have hrx2:=hrx
  have hrx2:XR w (X.mk eop eint evk evi evs enm el) us:=ee ▸ hrx
  obtain⟨ea,em,rfl,_⟩:=hrx2.lits
  have rr:∀j (u:Value),([.int .i64 eop,.int .i64 eint,.int .i64 evk,.int .i64 evi,.string ⟨evs.toArray⟩,.string ⟨enm.toArray⟩,.slice ea el.length em]:List Value)[j]? = some u->w4.cell? ⟨g,o+0*7+j,none⟩=some u:=fun j u hu=>(HW4.out.cell (by exact hgl)).trans (hcell j u hu)
  have r0:=rr 0 _ rfl
  have r1:=rr 1 _ rfl
  have r2:=rr 2 _ rfl
  have r3:=rr 3 _ rfl
  have r4:=rr 4 _ rfl
  have r5:=rr 5 _ rfl
  have r6:=rr 6 _ rfl
  simp only[Nat.zero_mul,Nat.add_zero] at r0 r1 r2 r3 r4 r5 r6
  have gl:g<w4.heap.size:=by have:=HW4.out.size;omega
  clear rr hcell ee
  have HO1:=h_ (HOF.out _ w4 HW4.out (HX.out.kept HW4.out (Nat.le_refl _)))
  clear hrx hrx2 HX
  have c1:(0:Int)<((q+2:Nat):Int):=by omega
  go_wp2_with fail
  refine HO1.out.mono ?_
  rintro e w5 ⟨rfl,hw5⟩
  have HB5:=h_ (HB4.out.below hw5)
  have HW5:=t_ HW4 hw5
  clear hw5 HB4 HW4 HO1 p6 r0 r1 r2 r3 r4 r5 r6
  go_upto_region 30 with(fail)
  refine b8x (K:=Code.wp _ _ _ _) (B:=w5.heap.size) (n:=1) (Nat.le_refl _) (by decide) rfl fun w6 hO6 hw6=>?_
  have HO6:Hid (a0z w5.heap.size (.slice (some ⟨w5.heap.size,0,none⟩) 1 1) (mG A0 N sg ((l.drop 1).take 0)) w6):=h_ hO6
  have HB6:=h_ (HB5.out.below hw6)
  have HW6:=h_ hw6
  clear hO6 hw6
  have p6:=HB6.out.cell 6 rfl
  have hqm1:1<=q+2:=by omega
  have hqm2:(q:Int)+2<=(m:Int):=by omega
  have hqm3:(1:Int)<=(q:Int)+2:=by omega
  have hdl:(l.drop 1).length=q+1:=by rw[List.length_drop];have:=HQ.out;omega
  have HDL:=h_ hdl
  go_upto_region 31 with(fail)
  clear hdl p6
  go_loopw [5,119] (fun v i wr=>c2C w5 (mG A0 N sg) (l.drop 1) v i wr) (fun _ i _=>(q+1) - (intOf i).toNat)
  case atStart=>exact⟨0,Nat.zero_le _,rfl,HO6.out,HW6.out⟩
  case round=>
   obtain⟨k,hk,rfl,ho,hb⟩:=hrel
   rw[HDL.out] at hk
   have HBr:=h_ hb
   have HB:=t_ HW5 hb
   have HBc:=h_ (HB5.out.below hb)
   have HOk:=h_ ho
   have hlt2:∀g,u5.ownBlock=some g->w5.heap.size<=g:=fun g e=>(ho.lt g e).1
   clear ho hb
   by_cases hlt:k<q+1
   ·have hlk:k+1<l.length:=by have:=HQ.out;omega
    have hdk:(l.drop 1)[k]'(by rw[HDL.out];exact hlt)=l[k+1]:=by rw[List.getElem_drop];simp only[Nat.add_comm]
    have HSN:Hid (mG A0 N sg ((l.drop 1).take (k+1))=mG A0 N sg ((l.drop 1).take k)++[sg,N l[k+1]]):=h_ (by rw[c1i (by rw[HDL.out];exact hlt),hdk])
    have HML:Hid ((mG A0 N sg ((l.drop 1).take k)).length<=2000001):=h_ (by rw[b9K,List.length_take];omega)
    generalize mG A0 N sg ((l.drop 1).take k)=M at HOk HSN HML
    obtain⟨g',o',us,eq',hgl',hcell',hkx,hrx⟩:=HL.out.at_ (k:=k+1) (by omega)
    injection eq' with eq'
    injection eq' with eg eo
    subst eg eo
    have HX:Hid (XR w l[k+1] us):=h_ hrx
    have hmem:=List.getElem_mem (l:=l) hlk
    obtain⟨fop,fint,fvk,fvi,fvs,fnm,fl,fe⟩:∃eop eint evk evi evs enm el,l[k+1]=X.mk eop eint evk evi evs enm el:=by
     cases l[k+1]
     exact⟨_,_,_,_,_,_,_,rfl⟩
    have hrx2:XR w (X.mk fop fint fvk fvi fvs fnm fl) us:=fe ▸ hrx
    obtain⟨fa,fm,rfl,_⟩:=hrx2.lits
    have rr:∀j (u:Value),([.int .i64 fop,.int .i64 fint,.int .i64 fvk,.int .i64 fvi,.string ⟨fvs.toArray⟩,.string ⟨fnm.toArray⟩,.slice fa fl.length fm]:List Value)[j]? = some u->wr.cell? ⟨g,o+7+k*7+j,none⟩=some u:=fun j u hu=>by
     rw[show o+7+k*7+j=o+(k+1)*7+j by omega]
     exact(HB.out.cell (by exact hgl')).trans (hcell' j u hu)
    have r0:=rr 0 _ rfl
    have r1:=rr 1 _ rfl
    have r2:=rr 2 _ rfl
    have r3:=rr 3 _ rfl
    have r4:=rr 4 _ rfl
    have r5:=rr 5 _ rfl
    have r6:=rr 6 _ rfl
    simp only[Nat.add_zero] at r0
    have HO2:=h_ fun(w':World) (hw':Below w.heap.size w w')=>HON.out l[k+1] hmem _ w' hw' (HX.out.kept hw' (Nat.le_refl _))
    have c2:(k:Int)<(q:Int)+1:=by omega
    have c3:(0:Int)<=(k:Int):=by omega
    have d1:decide ((k:Int)<(q:Int)+1)=true:=decide_eq_true c2
    have gl:g<wr.heap.size:=by have:=HB.out.size;omega
    generalize N l[k+1]=y at HSN HO2
    clear rr hcell' hrx hrx2 hdk fe hgl'
    go_upto_region 33 with(fail)
    refine nA fun w7 hX7 hw7 hz7=>?_
    have HX7:=h_ hX7
    have HB7:=t_ HB hw7
    have HBr7:=t_ HBr hw7
    have HBc7:=h_ (HBc.out.below hw7)
    have HO7:=h_ (a0z.below HOk.out hw7)
    clear hX7 hw7 hz7 HBr HBc HB HOk r0 r1 r2 r3 r4 r5 r6
    have hb0:Below w7.heap.size w7 {w7 with drawn:=w7.drawn+1}:=belowD w7 1
    refine Gr.a6p 6 (by kernel_rfl) (by kernel_rfl) (fun w'=>Below w7.heap.size w7 w') hb0 u5 rfl (fun w=>rfl) (fun c a w h=>h) ?_
    refine Gr.a1f fun K hK=>?_;go_simp;refine hK _ ?_;clear hK K
    simp only[List.take_succ_cons,List.take_zero,List.drop_succ_cons,List.drop_zero]
    clear hb0
    iterate 2
     first
     |apply Gr.sn;focus(go_simp;intro w' hw';go_simp;rw[Gr.a_];done)
     |apply Gr.sn;focus(go_simp;intro w' hw';have p0:=(HBc7.out.below hw').cell 0 rfl;go_simp;rw[Gr.a_];done)
     intro K hK;go_simp;refine hK _ ?_;clear hK K
    refine Gr.sn (.string ⟨sg.toArray⟩) (by go_simp;intro w' hw';go_simp;rw[Gr.b_];exact Ret.fam (HSG.out w') hw') fun K hK=>?_;go_simp;refine hK _ ?_;clear hK K
    iterate 2
     first
     |apply Gr.sn;focus(go_simp;intro w' hw';go_simp;rw[Gr.a_];done)
     |apply Gr.sn;focus(go_simp;intro w' hw';have x0:=(HX7.out.below hw').cell 0 rfl;have x1:=(HX7.out.below hw').cell 1 rfl;have x2:=(HX7.out.below hw').cell 2 rfl;have x3:=(HX7.out.below hw').cell 3 rfl;have x4:=(HX7.out.below hw').cell 4 rfl;have x5:=(HX7.out.below hw').cell 5 rfl;have x6:=(HX7.out.below hw').cell 6 rfl;go_simp;rw[Gr.a_];done)
     intro K hK;go_simp;refine hK _ ?_;clear hK K
    refine Gr.sn (.string ⟨y.toArray⟩) (by go_simp;intro w' hw';go_simp;rw[Gr.b_];exact Ret.fam (HO2.out w' (HB7.out.trans (hw'.mono HB7.out.size))) hw') fun K hK=>?_;go_simp;refine hK _ ?_;clear hK K
    refine Gr.o_ fun w8 hw8=>?_
    have HBr8:=t_ HBr7 hw8
    have HO8:=h_ (a0z.below HO7.out hw8)
    clear hw8 HX7 HB7 HBr7 HBc7 HO7 HO2
    go_wp2_with (at_builtin;refine wpList_append_own_at _ rfl (.tmp 123) (.tmp 130) 111 rfl w5.heap.size 9 i0 _ 1 16 Tryz.underlying111 hi0 hz0 hz1 hz2 rfl (by omega) u5 M.length _ rfl (World.ownsRow.alloc HO8.out _) ⟨w8.heap.size,0,none⟩ 2 2 [.string ⟨sg.toArray⟩,.string ⟨y.toArray⟩] rfl rfl (b8b _ _ _ _) (fun u hu=>by simp only[List.mem_cons,List.not_mem_nil,or_false] at hu;rcases hu with rfl|rfl<;>rfl) (by unfold maxLen;have:=HML.out;omega) (by have:=HML.out;omega) (Nat.le_trans HBr8.out.size (by simp)) ?_)
    intro v3 w9 hown3 hg3 _ hat3
    have hb9:Below w5.heap.size w5 w9:=(HBr8.out.alloc HBr8.out.size _).grown hg3 (Nat.le_trans HBr8.out.size (by simp)) hlt2
    have HO9:Hid (a0z w5.heap.size v3 (mG A0 N sg ((l.drop 1).take (k+1))) w9):=h_ (by rw[HSN.out];exact a0z.c2t hown3)
    clear hown3 hg3 hat3
    go_wp2_with fail
    go_roundw
    case rel=>exact⟨k+1,by rw[HDL.out];omega,by go_num,HO9.out,hb9⟩
    case measure=>simp[intOf];omega
   ·obtain rfl:k=q+1:=by omega
    have htk:(l.drop 1).take (q+1)=l.drop 1:=List.take_of_length_le (by rw[HDL.out];exact Nat.le_refl _)
    have ho:=HOk.out
    rw[htk] at ho
    have HMN:Hid ((mG A0 N sg (l.drop 1)).length<=1099511627776):=h_ (by rw[b9K,HDL.out];omega)
    generalize mG A0 N sg (l.drop 1)=M at ho HJ HT HLN HMN
    obtain⟨a2,c2,rfl,hs⟩:=ho.form
    have HJN:=a3B M a2 c2 wr HMN.out hs (by rw[HJ.out];have:=HLN.out;omega)
    rw[HJ.out,<-HT.out] at HJN
    have HJ2:=h_ (Ret.at_ HJN HB.out)
    have d1:decide ((q:Int)+1<(q:Int)+1)=false:=decide_eq_false (by omega)
    clear ho hs HJN HOk HJ HT HLN HMN htk
    go_wp2_with fail
    refine HJ2.out.mono ?_
    rintro e w9 ⟨rfl,hw9⟩
    go_wp2_with fail
    go_ret
    exact⟨rfl,hw9⟩
theorem b4n{op vk vi:Int}{n:Nat}(h:a0D op n=true)(hc:Chain op):R_ op vk vi=1\/R_ op vk vi=2\/R_ op vk vi=4\/R_ op vk vi=5\/R_ op vk vi=6:=by
 obtain⟨n1,n2,n3,n4,n5,n6,n7,n8,n9,n10⟩:=hc
 unfold a0D at h
 rw[if_neg (by omega),if_neg (by omega)] at h
 unfold R_
 by_cases h1:op=6
 ·rw[if_pos h1];exact .inl rfl
 rw[if_neg h1]
 by_cases h2:op=5
 ·rw[if_pos h2];exact .inr (.inl rfl)
 rw[if_neg h2,if_neg n6]
 rw[if_neg (by omega),if_neg (by omega),if_neg (by omega)] at h
 split at h
 ·rename_i h3
  by_cases h4:op=7\/op=8\/op=9\/op=10\/op=11\/op=12\/op=21\/op=25
  ·rw[if_pos h4];exact .inr (.inr (.inl rfl))
  rw[if_neg h4]
  by_cases h5:op=13\/op=14\/op=19
  ·rw[if_pos h5];exact .inr (.inr (.inr (.inl rfl)))
  rw[if_neg h5,if_pos (by omega)]
  exact .inr (.inr (.inr (.inr rfl)))
 ·cases h
theorem a4a:∀(N:Nat) (x:X) (cs:List Value) (w:World),nodes x<=N->N<=1000000->pOk x=true->Env w->XR w x cs->Calls Tryz.prog 27 #[.agg cs.toArray] w (Ret w (.string ⟨(txt x).toArray⟩))
 |0,x,_,_,h,_,_,_,_=>absurd (U_ x) (by omega)
 |N+1,.mk op int vk vi vs nm l,cs,w,hn,hN,hp,hE,h=>by
  have hn2:nodes (.mk op int vk vi vs nm l)<=1000000:=by omega
  rw[nodes] at hn
  obtain⟨ha,hpl,_,_⟩:=E_ hp
  have HI:∀x∈l,∀(cs:List Value) (w':World),Below w.heap.size w w'->XR w' x cs->Calls Tryz.prog 27 #[.agg cs.toArray] w' (Ret w' (.string ⟨(txt x).toArray⟩)):=
   fun x hx cs w' hw' hr=>a4a N x cs w' (by have:=M_ hx;omega) (by omega) (hpl x hx) (hE.below hw') hr
  have HO:∀x∈l,∀(n:Int) (cs:List Value) (w':World),Below w.heap.size w w'->XR w' x cs->Calls Tryz.prog 67 #[.agg cs.toArray,.int .i64 n] w' (Ret w' (.string ⟨(opd n x).toArray⟩)):=
   fun x hx n cs w' hw' hr=>b2B n hr (by have:=L_ hn2 (n:=0) (hpl x hx) hx;rw[a1M] at this;omega) (fun w2 hw2=>HI x hx cs w2 (hw'.trans (hw2.mono hw'.size)) (hr.kept hw2 (Nat.le_refl _)))
  by_cases c1:op=1
  ·subst c1;exact b7h int vk vi vs nm l cs w hp hE h
  by_cases c3:op=3
  ·subst c3;exact b9q int vk vi vs nm l cs w hp hE h
  by_cases c26:op=26
  ·subst c26;exact b5m int vk vi vs nm l cs w hp hE h
  by_cases c25:op=25
  ·subst c25;exact c0B int vk vi vs nm l cs w hp hE h
  by_cases c21:op=21
  ·subst c21;exact b5x int vk vi vs nm l cs w hp hE h hn2 HO
  by_cases c4:op=4
  ·subst c4;exact c0h int vk vi vs nm l cs w hp hE h hn2 HO
  by_cases c18:op=18
  ·subst c18;exact c1k int vk vi vs nm l cs w hp hE h hn2 HI HO
  by_cases c22:op=22
  ·subst c22;exact c2k int vk vi vs nm l cs w hp hE h hn2 HI
  by_cases c23:op=23
  ·subst c23;exact b2e int vk vi vs nm l cs w hp hE h hn2 HI
  by_cases c20:op=20
  ·subst c20;exact b4D int vk vi vs nm l cs w hp hE h hn2 HI
  have hc:Chain op:=⟨c1,c3,c26,c25,c21,c4,c18,c22,c23,c20⟩
  rcases b4n (vk:=vk) (vi:=vi) ha hc with e|e|e|e|e
  ·exact a3E 1 2 2 (by decide) op int vk vi vs nm l cs w hc e hn2 hp hE h HO
  ·exact a3E 2 3 3 (by decide) op int vk vi vs nm l cs w hc e hn2 hp hE h HO
  ·exact a3E 4 5 5 (by decide) op int vk vi vs nm l cs w hc e hn2 hp hE h HO
  ·exact a3E 5 5 6 (by decide) op int vk vi vs nm l cs w hc e hn2 hp hE h HO
  ·exact a3E 6 6 7 (by decide) op int vk vi vs nm l cs w hc e hn2 hp hE h HO
end Go.Proofs.YtlimlmjljjmcpaaGreatDoor.Px
