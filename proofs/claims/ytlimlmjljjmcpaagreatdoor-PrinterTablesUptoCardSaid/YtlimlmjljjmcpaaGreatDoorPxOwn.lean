import Derived.Test.YtlimlmjljjmcpaaGreatDoorPxC
set_option maxHeartbeats 20000000
set_option maxRecDepth 100000
namespace Go.Proofs.YtlimlmjljjmcpaaGreatDoor.Px
open Go Go.RowKit Go.Proofs.YtlimlmjljjmcpaaGreatDoor.Ps
set_option linter.unusedVariables false
set_option linter.unusedSimpArgs false
def EC(w:World)(g o:Nat)(cs:List Value):Prop:=g<w.heap.size /\ ∀(j:Nat) (u:Value),cs[j]? = some u->w.cell? ⟨g,o+j,none⟩=some u
theorem EC.at_{w w':World}{g o:Nat}{cs:List Value}(h:EC w g o cs)(hb:Below w.heap.size w w'){j:Nat}{u:Value}(hj:cs[j]? = some u):w'.cell? ⟨g,o+j,none⟩=some u:=(hb.cell (p:=⟨g,o+j,none⟩) h.1).trans (h.2 j u hj)
theorem EC.at0{w w':World}{g o:Nat}{cs:List Value}(h:EC w g o cs)(hb:Below w.heap.size w w'){u:Value}(hj:cs[0]? = some u):w'.cell? ⟨g,o,none⟩=some u:=h.at_ hb hj
theorem c3f(l:List X):((l.length:Int)==0)=decide (l.length=0):=by
 rw[Bool.eq_iff_iff];simp only[beq_iff_eq,decide_eq_true_eq];omega
theorem EC.c7{w w':World}{g o:Nat}{a0 a1 a2 a3 a4 a5 a6:Value}(h:EC w g o [a0,a1,a2,a3,a4,a5,a6])(hb:Below w.heap.size w w'):w'.cell? ⟨g,o,none⟩=some a0/\w'.cell? ⟨g,o+1,none⟩=some a1/\w'.cell? ⟨g,o+2,none⟩=some a2/\w'.cell? ⟨g,o+3,none⟩=some a3/\w'.cell? ⟨g,o+4,none⟩=some a4/\w'.cell? ⟨g,o+5,none⟩=some a5/\w'.cell? ⟨g,o+6,none⟩=some a6:=⟨h.at0 hb rfl,h.at_ hb (j:=1) rfl,h.at_ hb (j:=2) rfl,h.at_ hb (j:=3) rfl,h.at_ hb (j:=4) rfl,h.at_ hb (j:=5) rfl,h.at_ hb (j:=6) rfl⟩
theorem c2G{l:List X}(h:l.length=2):∃a b,l=[a,b]:=by
 match l,h with
 |[a,b],_=>exact⟨a,b,rfl⟩
theorem XL.ec{w:World}{l:List X}{a:Option Addr}{n m k:Nat}(h:XL w l (.slice a n m))(hk:k<n):∃g o us,a=some ⟨g,o,none⟩/\EC w g (o+k*7) us /\ ∃hx:k<l.length,XR w l[k] us:=by
 obtain⟨b,o,us,h1,h2,h3,hx,h4⟩:=h.at_ hk
 exact⟨b,o,us,h1,⟨h2,h3⟩,hx,h4⟩
theorem b8O(int vk vi:Int)(vs nm:S)(l:List X)(cs:List Value)(w:World)(hvs:vs.length<4294967281/\nm.length<4294967281)(h:XR w (.mk 3 int vk vi vs nm l) cs):Calls Tryz.prog 73 #[.agg cs.toArray] w (Ret w (.bool (ownB 3 int vk vi vs nm l))):=by
 have hnv:nm.length<=140737488351232:=by omega
 obtain⟨q,hq⟩:∃q,q=decide (l.length=0):=⟨_,rfl⟩
 have HQ:=h_ hq
 clear hq
 have HPK:Hid (ownB 3 int vk vi vs nm l=(decide (int=0)&&(x_ vk vi vs&&(q&&a2v nm)))):=h_ (by rw[HQ.out];rfl)
 generalize ownB 3 int vk vi vs nm l=ANS at HPK |-
 have hem:=mkE vs
 have hemn:=mkE nm
 have hlen0:=h.lits
 obtain⟨a,m,rfl,hl,_,_,hlen⟩:=hlen0
 clear h
 have HL:=h_ hl
 clear hl
 go_enter Tryz.func73,Tryz.ntmps73
 go_upto_region 1 with(fail)
 refine nA fun w1 hB hw1 hz1=>?_
 have HW:=h_ hw1
 have HBk:=h_ hB
 have p0:=hB.cell 0 rfl
 clear hB hw1 hz1
 go_upto_region 3 with(fail)
 have hb0:Below w1.heap.size w1 {w1 with drawn:=w1.drawn+1}:=belowD w1 1
 refine Gr.f_ 20 (by kernel_rfl) (by kernel_rfl) (fun w'=>Below w1.heap.size w1 w') hb0 ?_
 simp only[List.take_succ_cons,List.take_zero,List.drop_succ_cons,List.drop_zero]
 clear p0 hb0
 iterate 3
  first
  |apply Gr.sn (.bool (decide (int=0)));focus((go_simp;intro w' hw';go_simp;rw[Gr.a_];all_goals((first|rfl|(refine congrArg Value.bool ?_;first|rfl|simp|(rw[Bool.eq_iff_iff];simp;omega)))));done)
  |apply Gr.sn;focus(go_simp;intro w' hw';go_simp;rw[Gr.a_];done)
  |apply Gr.sn;focus(go_simp;intro w' hw';have p1:=(HBk.out.below hw').cell 1 rfl;go_simp;rw[Gr.a_];done)
  intro K hK;go_simp;refine hK _ ?_;clear hK K
 cases hB:decide (int=0)<;>(have HB0:=h_ hB;clear hB)
 rotate_left
 iterate 5
  first
  |apply Gr.sn (.agg #[.int .i64 0,.int .i64 0,.string ⟨#[]⟩]);focus(go_simp;intro w' hw';go_simp;rw[Gr.b_];exact Ret.fam (a0x w') hw';done)
  |apply Gr.sn (.bool (x_ vk vi vs));focus(go_simp;intro w' hw';go_simp;by_cases z1:vk=0<;>by_cases z2:vi=0<;>by_cases z3:vs=[]<;>simp[z1,z2,z3,Gr.a_,x_];done)
  |apply Gr.sn;focus(go_simp;intro w' hw';go_simp;rw[Gr.a_];done)
  |apply Gr.sn;focus(go_simp;intro w' hw';have p2:=(HBk.out.below hw').cell 2 rfl;have p3:=(HBk.out.below hw').cell 3 rfl;have p4:=(HBk.out.below hw').cell 4 rfl;go_simp;rw[Gr.a_];done)
  intro K hK;go_simp;refine hK _ ?_;clear hK K
 cases hB:x_ vk vi vs<;>(have HB1:=h_ hB;clear hB)
 rotate_left
 iterate 6
  first
  |apply Gr.sn (.bool (q));focus(go_simp;intro w' hw';go_simp;rw[Gr.a_];all_goals((rw[HQ.out];exact congrArg Value.bool (c3f l)));done)
  |apply Gr.sn;focus(go_simp;intro w' hw';go_simp;rw[Gr.a_];done)
  |apply Gr.sn;focus(go_simp;intro w' hw';have p6:=(HBk.out.below hw').cell 6 rfl;go_simp;rw[Gr.a_];done)
  intro K hK;go_simp;refine hK _ ?_;clear hK K
 cases hB:q<;>(have HB2:=h_ hB;clear hB)
 rotate_left
 iterate 5
  first
  |apply Gr.sn (.bool (a2v nm));focus(go_simp;intro w' hw';go_simp;rw[Gr.b_];exact Ret.fam (a9g nm w' hnv) hw';done)
  |apply Gr.sn;focus(go_simp;intro w' hw';go_simp;rw[Gr.a_];done)
  |apply Gr.sn;focus(go_simp;intro w' hw';have p5:=(HBk.out.below hw').cell 5 rfl;go_simp;rw[Gr.a_];done)
  intro K hK;go_simp;refine hK _ ?_;clear hK K
 cases hB:a2v nm<;>(have HB3:=h_ hB;clear hB)
 rotate_left
 refine Gr.sn _ (by go_simp;intro w' hw';go_simp;rw[Gr.a_]) fun K hK=>?_;go_simp;refine hK _ ?_;clear hK K
 all_goals
  repeat
   first
   |(apply Gr.a0S undef;focus(go_simp;done))
   |(apply Gr.a0S;focus(go_simp;intro w' hw';go_simp;rw[Gr.a_];done))
   refine Gr.a1f fun K hK=>?_;go_simp;refine hK _ ?_;clear hK K
  refine Gr.o_ fun w4 hw4=>?_
  have HW4:=t_ HW hw4
  clear hw4
  go_wp2_with fail
  go_ret
  refine⟨congrArg (fun z=>Ending.returned (.bool z)) ?_,HW4.out⟩
  rw[HPK.out]
  try rw[HB0.out];try rw[HB1.out];try rw[HB2.out];try rw[HB3.out]
  try rfl
theorem b5K(int vk vi:Int)(vs nm:S)(l:List X)(cs:List Value)(w:World)(hvs:vs.length<4294967281/\nm.length<4294967281)(h:XR w (.mk 26 int vk vi vs nm l) cs):Calls Tryz.prog 73 #[.agg cs.toArray] w (Ret w (.bool (ownB 26 int vk vi vs nm l))):=by
 have hnv:nm.length<=140737488351232:=by omega
 obtain⟨q,hq⟩:∃q,q=decide (l.length=0):=⟨_,rfl⟩
 have HQ:=h_ hq
 clear hq
 have HPK:Hid (ownB 26 int vk vi vs nm l=(decide (0<=int)&&(decide (int<5)&&(x_ vk vi vs&&(q&&nameB nm))))):=h_ (by rw[HQ.out];rfl)
 generalize ownB 26 int vk vi vs nm l=ANS at HPK |-
 have hem:=mkE vs
 have hemn:=mkE nm
 have hlen0:=h.lits
 obtain⟨a,m,rfl,hl,_,_,hlen⟩:=hlen0
 clear h
 have HL:=h_ hl
 clear hl
 go_enter Tryz.func73,Tryz.ntmps73
 go_upto_region 1 with(fail)
 refine nA fun w1 hB hw1 hz1=>?_
 have HW:=h_ hw1
 have HBk:=h_ hB
 have p0:=hB.cell 0 rfl
 clear hB hw1 hz1
 go_upto_region 7 with(fail)
 have hb0:Below w1.heap.size w1 {w1 with drawn:=w1.drawn+1}:=belowD w1 1
 refine Gr.f_ 25 (by kernel_rfl) (by kernel_rfl) (fun w'=>Below w1.heap.size w1 w') hb0 ?_
 simp only[List.take_succ_cons,List.take_zero,List.drop_succ_cons,List.drop_zero]
 clear p0 hb0
 iterate 3
  first
  |apply Gr.sn (.bool (decide (0<=int)));focus((go_simp;intro w' hw';go_simp;rw[Gr.a_];all_goals((first|rfl|(refine congrArg Value.bool ?_;first|rfl|simp|(rw[Bool.eq_iff_iff];simp;omega)))));done)
  |apply Gr.sn;focus(go_simp;intro w' hw';go_simp;rw[Gr.a_];done)
  |apply Gr.sn;focus(go_simp;intro w' hw';have p1:=(HBk.out.below hw').cell 1 rfl;go_simp;rw[Gr.a_];done)
  intro K hK;go_simp;refine hK _ ?_;clear hK K
 cases hB:decide (0<=int)<;>(have HB0:=h_ hB;clear hB)
 rotate_left
 iterate 4
  first
  |apply Gr.sn (.bool (decide (int<5)));focus((go_simp;intro w' hw';go_simp;rw[Gr.a_];all_goals((first|rfl|(refine congrArg Value.bool ?_;first|rfl|simp|(rw[Bool.eq_iff_iff];simp;omega)))));done)
  |apply Gr.sn;focus(go_simp;intro w' hw';go_simp;rw[Gr.a_];done)
  |apply Gr.sn;focus(go_simp;intro w' hw';have p1:=(HBk.out.below hw').cell 1 rfl;go_simp;rw[Gr.a_];done)
  intro K hK;go_simp;refine hK _ ?_;clear hK K
 cases hB:decide (int<5)<;>(have HB1:=h_ hB;clear hB)
 rotate_left
 iterate 6
  first
  |apply Gr.sn (.agg #[.int .i64 0,.int .i64 0,.string ⟨#[]⟩]);focus(go_simp;intro w' hw';go_simp;rw[Gr.b_];exact Ret.fam (a0x w') hw';done)
  |apply Gr.sn (.bool (x_ vk vi vs));focus(go_simp;intro w' hw';go_simp;by_cases z1:vk=0<;>by_cases z2:vi=0<;>by_cases z3:vs=[]<;>simp[z1,z2,z3,Gr.a_,x_];done)
  |apply Gr.sn;focus(go_simp;intro w' hw';go_simp;rw[Gr.a_];done)
  |apply Gr.sn;focus(go_simp;intro w' hw';have p2:=(HBk.out.below hw').cell 2 rfl;have p3:=(HBk.out.below hw').cell 3 rfl;have p4:=(HBk.out.below hw').cell 4 rfl;go_simp;rw[Gr.a_];done)
  intro K hK;go_simp;refine hK _ ?_;clear hK K
 cases hB:x_ vk vi vs<;>(have HB2:=h_ hB;clear hB)
 rotate_left
 iterate 6
  first
  |apply Gr.sn (.bool (q));focus(go_simp;intro w' hw';go_simp;rw[Gr.a_];all_goals((rw[HQ.out];exact congrArg Value.bool (c3f l)));done)
  |apply Gr.sn;focus(go_simp;intro w' hw';go_simp;rw[Gr.a_];done)
  |apply Gr.sn;focus(go_simp;intro w' hw';have p6:=(HBk.out.below hw').cell 6 rfl;go_simp;rw[Gr.a_];done)
  intro K hK;go_simp;refine hK _ ?_;clear hK K
 cases hB:q<;>(have HB3:=h_ hB;clear hB)
 rotate_left
 iterate 5
  first
  |apply Gr.sn (.bool (nameB nm));focus(go_simp;intro w' hw';go_simp;rw[Gr.b_];exact Ret.fam (a1H nm w') hw';done)
  |apply Gr.sn;focus(go_simp;intro w' hw';go_simp;rw[Gr.a_];done)
  |apply Gr.sn;focus(go_simp;intro w' hw';have p5:=(HBk.out.below hw').cell 5 rfl;go_simp;rw[Gr.a_];done)
  intro K hK;go_simp;refine hK _ ?_;clear hK K
 cases hB:nameB nm<;>(have HB4:=h_ hB;clear hB)
 rotate_left
 refine Gr.sn _ (by go_simp;intro w' hw';go_simp;rw[Gr.a_]) fun K hK=>?_;go_simp;refine hK _ ?_;clear hK K
 all_goals
  repeat
   first
   |(apply Gr.a0S undef;focus(go_simp;done))
   |(apply Gr.a0S;focus(go_simp;intro w' hw';go_simp;rw[Gr.a_];done))
   refine Gr.a1f fun K hK=>?_;go_simp;refine hK _ ?_;clear hK K
  refine Gr.o_ fun w4 hw4=>?_
  have HW4:=t_ HW hw4
  clear hw4
  go_wp2_with fail
  go_ret
  refine⟨congrArg (fun z=>Ending.returned (.bool z)) ?_,HW4.out⟩
  rw[HPK.out]
  try rw[HB0.out];try rw[HB1.out];try rw[HB2.out];try rw[HB3.out];try rw[HB4.out]
  try rfl
theorem c1e(int vk vi:Int)(vs nm:S)(l:List X)(cs:List Value)(w:World)(hvs:vs.length<4294967281/\nm.length<4294967281)(hsh:∀x∈l,x.nm.length<4294967281)(h:XR w (.mk 25 int vk vi vs nm l) cs):Calls Tryz.prog 73 #[.agg cs.toArray] w (Ret w (.bool (ownB 25 int vk vi vs nm l))):=by
 have HPK:Hid (ownB 25 int vk vi vs nm l=(decide (0<=int)&&(decide (int<13)&&(x_ vk vi vs&&(nm.isEmpty&&(decide (l.length=2)&&l.all a0W)))))):=h_ rfl
 by_cases h2:l.length=2
 ·
  have hem:=mkE vs
  have hemn:=mkE nm
  obtain⟨x0,x1,rfl⟩:=c2G h2
  have h0s:=hsh x0 (by simp)
  have h1s:=hsh x1 (by simp)
  obtain⟨op0,int0,vk0,vi0,vs0,nm0,l0⟩:=x0
  obtain⟨op1,int1,vk1,vi1,vs1,nm1,l1⟩:=x1
  have HPK:Hid (ownB 25 int vk vi vs nm [.mk op0 int0 vk0 vi0 vs0 nm0 l0,.mk op1 int1 vk1 vi1 vs1 nm1 l1]=(decide (0<=int)&&(decide (int<13)&&(x_ vk vi vs&&(nm.isEmpty&&(decide (([.mk op0 int0 vk0 vi0 vs0 nm0 l0,.mk op1 int1 vk1 vi1 vs1 nm1 l1]:List X).length=2)&&(a0W (.mk op0 int0 vk0 vi0 vs0 nm0 l0)&&a0W (.mk op1 int1 vk1 vi1 vs1 nm1 l1)))))))):=h_ (by rw[HPK.out];simp only[List.all_cons,List.all_nil,Bool.and_true])
  generalize ownB 25 int vk vi vs nm [.mk op0 int0 vk0 vi0 vs0 nm0 l0,.mk op1 int1 vk1 vi1 vs1 nm1 l1]=ANS at HPK |-
  obtain⟨a,m,rfl,hl,_,_,hlen⟩:=h.lits
  clear h
  obtain⟨g,o,us,eq,hec,_,hrx⟩:=hl.ec (k:=0) (by simp)
  subst eq
  obtain⟨g',o',us',eq',hec',_,hrx'⟩:=hl.ec (k:=1) (by simp)
  injection eq' with eq'
  injection eq' with eg eo
  subst eg eo
  have HT0:=h_ fun(w':World) (hw':Below w.heap.size w w')=>a9u (hrx.kept hw' (Nat.le_refl _)) h0s
  have HT1:=h_ fun(w':World) (hw':Below w.heap.size w w')=>a9u (hrx'.kept hw' (Nat.le_refl _)) h1s
  obtain⟨ea,em,rfl,_⟩:=(show XR w (.mk op0 int0 vk0 vi0 vs0 nm0 l0) us from hrx).lits
  obtain⟨ea',em',rfl,_⟩:=(show XR w (.mk op1 int1 vk1 vi1 vs1 nm1 l1) us' from hrx').lits
  simp only[Nat.zero_mul,Nat.add_zero,Nat.one_mul] at hec hec'
  have HE0:=h_ hec
  have HE1:=h_ hec'
  clear hrx hrx' hec hec' hl h2 hsh
  simp only[List.length_cons,List.length_nil,Nat.zero_add] at HPK |-
  go_enter Tryz.func73,Tryz.ntmps73
  go_upto_region 1 with(fail)
  refine nA fun w1 hB hw1 hz1=>?_
  have HW:=h_ hw1
  have HBk:=h_ hB
  have p0:=hB.cell 0 rfl
  clear hB hw1 hz1
  go_upto_region 5 with(fail)
  have hb0:Below w1.heap.size w1 {w1 with drawn:=w1.drawn+1}:=belowD w1 1
  refine Gr.f_ 39 (by kernel_rfl) (by kernel_rfl) (fun w'=>Below w1.heap.size w1 w') hb0 ?_
  simp only[List.take_succ_cons,List.take_zero,List.drop_succ_cons,List.drop_zero]
  clear p0 hb0
  iterate 3
   first
   |apply Gr.sn (.bool (decide (0<=int)));focus((go_simp;intro w' hw';go_simp;rw[Gr.a_];all_goals((first|rfl|(refine congrArg Value.bool ?_;first|rfl|simp|(rw[Bool.eq_iff_iff];simp;omega)))));done)
   |apply Gr.sn;focus(go_simp;intro w' hw';go_simp;rw[Gr.a_];done)
   |apply Gr.sn;focus(go_simp;intro w' hw';have p1:=(HBk.out.below hw').cell 1 rfl;go_simp;rw[Gr.a_];done)
   intro K hK;go_simp;refine hK _ ?_;clear hK K
  cases hB:decide (0<=int)<;>(have HB0:=h_ hB;clear hB)
  rotate_left
  iterate 4
   first
   |apply Gr.sn (.bool (decide (int<13)));focus((go_simp;intro w' hw';go_simp;rw[Gr.a_];all_goals((first|rfl|(refine congrArg Value.bool ?_;first|rfl|simp|(rw[Bool.eq_iff_iff];simp;omega)))));done)
   |apply Gr.sn;focus(go_simp;intro w' hw';go_simp;rw[Gr.a_];done)
   |apply Gr.sn;focus(go_simp;intro w' hw';have p1:=(HBk.out.below hw').cell 1 rfl;go_simp;rw[Gr.a_];done)
   intro K hK;go_simp;refine hK _ ?_;clear hK K
  cases hB:decide (int<13)<;>(have HB1:=h_ hB;clear hB)
  rotate_left
  iterate 6
   first
   |apply Gr.sn (.agg #[.int .i64 0,.int .i64 0,.string ⟨#[]⟩]);focus(go_simp;intro w' hw';go_simp;rw[Gr.b_];exact Ret.fam (a0x w') hw';done)
   |apply Gr.sn (.bool (x_ vk vi vs));focus(go_simp;intro w' hw';go_simp;by_cases z1:vk=0<;>by_cases z2:vi=0<;>by_cases z3:vs=[]<;>simp[z1,z2,z3,Gr.a_,x_];done)
   |apply Gr.sn;focus(go_simp;intro w' hw';go_simp;rw[Gr.a_];done)
   |apply Gr.sn;focus(go_simp;intro w' hw';have p2:=(HBk.out.below hw').cell 2 rfl;have p3:=(HBk.out.below hw').cell 3 rfl;have p4:=(HBk.out.below hw').cell 4 rfl;go_simp;rw[Gr.a_];done)
   intro K hK;go_simp;refine hK _ ?_;clear hK K
  cases hB:x_ vk vi vs<;>(have HB2:=h_ hB;clear hB)
  rotate_left
  iterate 5
   first
   |apply Gr.sn (.bool (nm.isEmpty));focus((go_simp;intro w' hw';go_simp;rw[Gr.a_];all_goals((first|rfl|(refine congrArg Value.bool ?_;first|rfl|simp|exact hemn))));done)
   |apply Gr.sn;focus(go_simp;intro w' hw';go_simp;rw[Gr.a_];done)
   |apply Gr.sn;focus(go_simp;intro w' hw';have p5:=(HBk.out.below hw').cell 5 rfl;go_simp;rw[Gr.a_];done)
   intro K hK;go_simp;refine hK _ ?_;clear hK K
  cases hB:nm.isEmpty<;>(have HB3:=h_ hB;clear hB)
  rotate_left
  iterate 13
   first
   |apply Gr.sn (.bool (a0W (.mk op0 int0 vk0 vi0 vs0 nm0 l0)));focus(go_simp;intro w' hw';go_simp;rw[Gr.b_];exact Ret.fam (HT0.out w' (HW.out.trans (hw'.mono HW.out.size))) hw';done)
   |apply Gr.sn;focus(go_simp;intro w' hw';go_simp;rw[Gr.a_];done)
   |apply Gr.sn;focus(go_simp;intro w' hw';have p6:=(HBk.out.below hw').cell 6 rfl;go_simp;rw[Gr.a_];done)
   |apply Gr.sn;focus(go_simp;intro w' hw';have r0:=HE0.out.at0 (HW.out.trans (hw'.mono HW.out.size)) (u:=_) rfl;have r1:=HE0.out.at_ (HW.out.trans (hw'.mono HW.out.size)) (j:=1) rfl;have r2:=HE0.out.at_ (HW.out.trans (hw'.mono HW.out.size)) (j:=2) rfl;have r3:=HE0.out.at_ (HW.out.trans (hw'.mono HW.out.size)) (j:=3) rfl;have r4:=HE0.out.at_ (HW.out.trans (hw'.mono HW.out.size)) (j:=4) rfl;have r5:=HE0.out.at_ (HW.out.trans (hw'.mono HW.out.size)) (j:=5) rfl;have r6:=HE0.out.at_ (HW.out.trans (hw'.mono HW.out.size)) (j:=6) rfl;go_simp;rw[Gr.a_];done)
   intro K hK;go_simp;refine hK _ ?_;clear hK K
  cases hB:a0W (.mk op0 int0 vk0 vi0 vs0 nm0 l0)<;>(have HB5:=h_ hB;clear hB)
  rotate_left
  iterate 7
   first
   |apply Gr.sn (.bool (a0W (.mk op1 int1 vk1 vi1 vs1 nm1 l1)));focus(go_simp;intro w' hw';go_simp;rw[Gr.b_];exact Ret.fam (HT1.out w' (HW.out.trans (hw'.mono HW.out.size))) hw';done)
   |apply Gr.sn;focus(go_simp;intro w' hw';go_simp;rw[Gr.a_];done)
   |apply Gr.sn;focus(go_simp;intro w' hw';have p6:=(HBk.out.below hw').cell 6 rfl;go_simp;rw[Gr.a_];done)
   |apply Gr.sn;focus(go_simp;intro w' hw';have s0:=HE1.out.at0 (HW.out.trans (hw'.mono HW.out.size)) (u:=_) rfl;have s1:=HE1.out.at_ (HW.out.trans (hw'.mono HW.out.size)) (j:=1) rfl;have s2:=HE1.out.at_ (HW.out.trans (hw'.mono HW.out.size)) (j:=2) rfl;have s3:=HE1.out.at_ (HW.out.trans (hw'.mono HW.out.size)) (j:=3) rfl;have s4:=HE1.out.at_ (HW.out.trans (hw'.mono HW.out.size)) (j:=4) rfl;have s5:=HE1.out.at_ (HW.out.trans (hw'.mono HW.out.size)) (j:=5) rfl;have s6:=HE1.out.at_ (HW.out.trans (hw'.mono HW.out.size)) (j:=6) rfl;go_simp;rw[Gr.a_];done)
   intro K hK;go_simp;refine hK _ ?_;clear hK K
  cases hB:a0W (.mk op1 int1 vk1 vi1 vs1 nm1 l1)<;>(have HB6:=h_ hB;clear hB)
  rotate_left
  refine Gr.sn _ (by go_simp;intro w' hw';go_simp;rw[Gr.a_]) fun K hK=>?_;go_simp;refine hK _ ?_;clear hK K
  all_goals
   repeat
    first
    |(apply Gr.a0S undef;focus(go_simp;done))
    |(apply Gr.a0S;focus(go_simp;intro w' hw';go_simp;rw[Gr.a_];done))
    refine Gr.a1f fun K hK=>?_;go_simp;refine hK _ ?_;clear hK K
   refine Gr.o_ fun w4 hw4=>?_
   have HW4:=t_ HW hw4
   clear hw4
   go_wp2_with fail
   go_ret
   refine⟨congrArg (fun z=>Ending.returned (.bool z)) ?_,HW4.out⟩
   rw[HPK.out]
   try rw[HB0.out];try rw[HB1.out];try rw[HB2.out];try rw[HB3.out];try rw[HB5.out];try rw[HB6.out]
   try rfl
 ·
  have hem:=mkE vs
  have hemn:=mkE nm
  generalize ownB 25 int vk vi vs nm l=ANS at HPK |-
  obtain⟨a,m,rfl,hl,_,_,hlen⟩:=h.lits
  clear h
  have HH2:=h_ (decide_eq_false h2)
  have h2i:¬(l.length:Int)=2:=by omega
  clear hl h2
  go_enter Tryz.func73,Tryz.ntmps73
  go_upto_region 1 with(fail)
  refine nA fun w1 hB hw1 hz1=>?_
  have HW:=h_ hw1
  have HBk:=h_ hB
  have p0:=hB.cell 0 rfl
  clear hB hw1 hz1
  go_upto_region 5 with(fail)
  have hb0:Below w1.heap.size w1 {w1 with drawn:=w1.drawn+1}:=belowD w1 1
  refine Gr.f_ 39 (by kernel_rfl) (by kernel_rfl) (fun w'=>Below w1.heap.size w1 w') hb0 ?_
  simp only[List.take_succ_cons,List.take_zero,List.drop_succ_cons,List.drop_zero]
  clear p0 hb0
  iterate 3
   first
   |apply Gr.sn (.bool (decide (0<=int)));focus((go_simp;intro w' hw';go_simp;rw[Gr.a_];all_goals((first|rfl|(refine congrArg Value.bool ?_;first|rfl|simp|(rw[Bool.eq_iff_iff];simp;omega)))));done)
   |apply Gr.sn;focus(go_simp;intro w' hw';go_simp;rw[Gr.a_];done)
   |apply Gr.sn;focus(go_simp;intro w' hw';have p1:=(HBk.out.below hw').cell 1 rfl;go_simp;rw[Gr.a_];done)
   intro K hK;go_simp;refine hK _ ?_;clear hK K
  cases hB:decide (0<=int)<;>(have HB0:=h_ hB;clear hB)
  rotate_left
  iterate 4
   first
   |apply Gr.sn (.bool (decide (int<13)));focus((go_simp;intro w' hw';go_simp;rw[Gr.a_];all_goals((first|rfl|(refine congrArg Value.bool ?_;first|rfl|simp|(rw[Bool.eq_iff_iff];simp;omega)))));done)
   |apply Gr.sn;focus(go_simp;intro w' hw';go_simp;rw[Gr.a_];done)
   |apply Gr.sn;focus(go_simp;intro w' hw';have p1:=(HBk.out.below hw').cell 1 rfl;go_simp;rw[Gr.a_];done)
   intro K hK;go_simp;refine hK _ ?_;clear hK K
  cases hB:decide (int<13)<;>(have HB1:=h_ hB;clear hB)
  rotate_left
  iterate 6
   first
   |apply Gr.sn (.agg #[.int .i64 0,.int .i64 0,.string ⟨#[]⟩]);focus(go_simp;intro w' hw';go_simp;rw[Gr.b_];exact Ret.fam (a0x w') hw';done)
   |apply Gr.sn (.bool (x_ vk vi vs));focus(go_simp;intro w' hw';go_simp;by_cases z1:vk=0<;>by_cases z2:vi=0<;>by_cases z3:vs=[]<;>simp[z1,z2,z3,Gr.a_,x_];done)
   |apply Gr.sn;focus(go_simp;intro w' hw';go_simp;rw[Gr.a_];done)
   |apply Gr.sn;focus(go_simp;intro w' hw';have p2:=(HBk.out.below hw').cell 2 rfl;have p3:=(HBk.out.below hw').cell 3 rfl;have p4:=(HBk.out.below hw').cell 4 rfl;go_simp;rw[Gr.a_];done)
   intro K hK;go_simp;refine hK _ ?_;clear hK K
  cases hB:x_ vk vi vs<;>(have HB2:=h_ hB;clear hB)
  rotate_left
  iterate 5
   first
   |apply Gr.sn (.bool (nm.isEmpty));focus((go_simp;intro w' hw';go_simp;rw[Gr.a_];all_goals((first|rfl|(refine congrArg Value.bool ?_;first|rfl|simp|exact hemn))));done)
   |apply Gr.sn;focus(go_simp;intro w' hw';go_simp;rw[Gr.a_];done)
   |apply Gr.sn;focus(go_simp;intro w' hw';have p5:=(HBk.out.below hw').cell 5 rfl;go_simp;rw[Gr.a_];done)
   intro K hK;go_simp;refine hK _ ?_;clear hK K
  cases hB:nm.isEmpty<;>(have HB3:=h_ hB;clear hB)
  rotate_left
  iterate 6
   first
   |apply Gr.sn;focus(go_simp;intro w' hw';go_simp;rw[Gr.a_];done)
   |apply Gr.sn;focus(go_simp;intro w' hw';have p6:=(HBk.out.below hw').cell 6 rfl;go_simp;rw[Gr.a_];done)
   intro K hK;go_simp;refine hK _ ?_;clear hK K
  all_goals
   repeat
    first
    |(apply Gr.a0S undef;focus(go_simp;done))
    |(apply Gr.a0S;focus(go_simp;intro w' hw';go_simp;rw[Gr.a_];done))
    refine Gr.a1f fun K hK=>?_;go_simp;refine hK _ ?_;clear hK K
   refine Gr.o_ fun w4 hw4=>?_
   have HW4:=t_ HW hw4
   clear hw4
   go_wp2_with fail
   go_ret
   refine⟨congrArg (fun z=>Ending.returned (.bool z)) ?_,HW4.out⟩
   rw[HPK.out]
   try rw[HB0.out];try rw[HB1.out];try rw[HB2.out];try rw[HB3.out];try rw[HH2.out]
   try rfl
theorem b7m(op int vk vi:Int)(vs nm:S)(l:List X)(cs:List Value)(w:World)(h3:op ≠ 3)(h25:op ≠ 25)(h26:op ≠ 26)(hvs:vs.length<4294967281/\nm.length<4294967281)(h:XR w (.mk op int vk vi vs nm l) cs):Calls Tryz.prog 73 #[.agg cs.toArray] w (Ret w (.bool (ownB op int vk vi vs nm l))):=by
 have HPK:Hid (ownB op int vk vi vs nm l=if op=2\/op=24 then false else a2w op int vk vi vs nm l.length):=h_ (by unfold ownB;rw[if_neg h3,if_neg h25,if_neg h26])
 have HX:=h_ h
 have HF:=h_ fun(h2:op ≠ 2) (h24:op ≠ 24) (w':World) (hw':Below w.heap.size w w')=>a7D (h.kept hw' (Nat.le_refl _)) (fun _ _ _ _ _ _ _ e=>by injection e with e0 _ _ _ e4;subst e0 e4;exact⟨h2,h24,hvs.1⟩) op int vk vi vs nm l rfl
 generalize ownB op int vk vi vs nm l=ANS at HPK |-
 generalize a2w op int vk vi vs nm l.length=FB at HPK HF
 obtain⟨a,m,rfl,hl,_,_,hlen⟩:=h.lits
 have b3:(op==3)=false:=by simpa using h3
 have b25:(op==25)=false:=by simpa using h25
 have b26:(op==26)=false:=by simpa using h26
 clear h hl h3 h25 h26
 go_enter Tryz.func73,Tryz.ntmps73
 go_upto_region 1 with(fail)
 refine nA fun w1 hB hw1 hz1=>?_
 have HW:=h_ hw1
 obtain⟨p0,p1,p2,p3,p4,p5,p6⟩:=hB.c7
 clear hB hw1 hz1
 by_cases h2:op=2
 ·subst h2
  have HP:Hid (ANS=false):=h_ (by rw[HPK.out,if_pos (.inl rfl)])
  go_wp2_with fail
  go_ret
  exact⟨by rw[HP.out];rfl,HW.out⟩
 by_cases h24:op=24
 ·subst h24
  have HP:Hid (ANS=false):=h_ (by rw[HPK.out,if_pos (.inr rfl)])
  go_wp2_with fail
  go_ret
  exact⟨by rw[HP.out];rfl,HW.out⟩
 have HP:Hid (ANS=FB):=h_ (by rw[HPK.out,if_neg (by omega)])
 have HF1:=h_ (Ret.at_ (HF.out h2 h24 w1 HW.out) HW.out)
 have b2:(op==2)=false:=by simpa using h2
 have b24:(op==24)=false:=by simpa using h24
 clear HF h2 h24
 go_wp2_with fail
 refine HF1.out.mono ?_
 rintro e w2 ⟨rfl,hw2⟩
 go_wp2_with fail
 go_ret
 exact⟨by rw[HP.out];rfl,hw2⟩
theorem b9P{x:X}(h:D_ x):x.nm.length<4294967281:=by
 obtain⟨op,int,vk,vi,vs,nm,l⟩:=x
 rw[D_] at h
 exact h.1.2
theorem b9S(op int vk vi:Int)(vs nm:S)(l:List X)(cs:List Value)(w:World)(hvs:vs.length<4294967281/\nm.length<4294967281)(hsh:a0M l)(h:XR w (.mk op int vk vi vs nm l) cs):Calls Tryz.prog 73 #[.agg cs.toArray] w (Ret w (.bool (ownB op int vk vi vs nm l))):=by
 by_cases h3:op=3
 ·subst h3;exact b8O int vk vi vs nm l cs w hvs h
 by_cases h25:op=25
 ·subst h25;exact c1e int vk vi vs nm l cs w hvs (fun x hx=>b9P (a1V hsh hx)) h
 by_cases h26:op=26
 ·subst h26;exact b5K int vk vi vs nm l cs w hvs h
 exact b7m op int vk vi vs nm l cs w h3 h25 h26 hvs h
end Go.Proofs.YtlimlmjljjmcpaaGreatDoor.Px
