import Derived.Test.YtlimlmjljjmcpaaGreatDoorPxD
import Derived.Test.YtlimlmjljjmcpaaGreatDoorPxOwn
set_option maxHeartbeats 20000000
set_option maxRecDepth 100000
namespace Go.Proofs.YtlimlmjljjmcpaaGreatDoor.Px
open Go Go.RowKit Go.Proofs.YtlimlmjljjmcpaaGreatDoor.Ps
set_option linter.unusedVariables false
set_option linter.unusedSimpArgs false
theorem a6T(L:List S)(x sep:S)(h:L ≠ []):Lib.join (L++[x]) sep=Lib.join L sep++sep++x:=by
 match L,h with
 |a::L,_=>
  rw[List.cons_append,Lib.join_cons,Lib.join_cons]
  have:Lib.joinTail sep (L++[x])=Lib.joinTail sep L++(sep++x):=by
   unfold Lib.joinTail
   simp
  rw[this]
  simp
theorem XL.len{w:World}{l:List X}{a:Option Addr}{n m:Nat}(h:XL w l (.slice a n m)):n<=140737488351232:=by
 have:=(H_ Tryz.underlying24 (by kernel_rfl:Tryz.prog.bytesOf 26=88) (by decide) h).2
 omega
theorem join_one(x sep:S):Lib.join [x] sep=x:=by
 rw[Lib.join_cons]
 simp[Lib.joinTail]
theorem b0U{n:Int}{l:List X}{k:Nat}(h:k<l.length):P_ n (l.take (k+1))=P_ n (l.take k)++[opd n l[k]]:=by
 rw[a4l,a4l,List.take_succ_eq_append_getElem h,List.map_append]
 rfl
theorem b9n(n:Int)(l:List X)(sep:S):∀k,(Lib.join (P_ n (l.take k)) sep).length<=(Lib.join (P_ n l) sep).length:=by
 have step:∀k,k<l.length->(Lib.join (P_ n (l.take k)) sep).length<=(Lib.join (P_ n (l.take (k+1))) sep).length:=fun k hk=>by
  rw[b0U hk]
  by_cases h0:P_ n (l.take k)=[]
  ·rw[h0,Lib.join_nil];simp
  ·rw[a6T _ _ _ h0]
   simp only[List.length_append]
   omega
 have up:∀d k,k+d=l.length->(Lib.join (P_ n (l.take k)) sep).length<=(Lib.join (P_ n l) sep).length:=by
  intro d
  induction d with
  |zero=>intro k hk;rw[List.take_of_length_le (by omega)];exact Nat.le_refl _
  |succ d ih=>intro k hk;exact Nat.le_trans (step k (by omega)) (ih (k+1) (by omega))
 intro k
 by_cases hk:k<=l.length
 ·exact up (l.length - k) k (by omega)
 ·rw[List.take_of_length_le (by omega)];exact Nat.le_refl _
theorem c2R{n:Int}{l:List X}{k:Nat}{sep:S}(h:k<l.length):Lib.join (P_ n (l.take (k+1))) sep=if k=0 then opd n l[k] else Lib.join (P_ n (l.take k)) sep++sep++opd n l[k]:=by
 rw[b0U h]
 by_cases h0:k=0
 ·subst h0
  rw[if_pos rfl]
  exact join_one _ _
 ·rw[if_neg h0,a6T]
  intro e
  have h3:=congrArg List.length e
  rw[a3l,List.length_take] at h3
  have h4:([]:List S).length=0:=rfl
  omega
theorem c3d{int vk vi:Int}{vs nm:S}(h:a0o 26 int vk vi vs nm=true):0<=int/\int<5:=by
 have:a0o 26 int vk vi vs nm=((nameB nm && !(a0u int).isEmpty)&&x_ vk vi vs):=rfl
 rw[this,Bool.and_eq_true,Bool.and_eq_true,b3t,Bool.and_eq_true] at h
 exact⟨of_decide_eq_true h.1.2.1,of_decide_eq_true h.1.2.2⟩
theorem b3h(n:Int)(w:World)(h:0<=n/\n<5):Calls Tryz.prog 75 #[.int .i64 n] w (Ret w (.string ⟨(a0u n).toArray⟩)):=by
 have hn:n=0\/n=1\/n=2\/n=3\/n=4:=by omega
 clear h
 rcases hn with rfl|rfl|rfl|rfl|rfl
 all_goals
  go_enter Tryz.func75,Tryz.ntmps75
  go_wp2_with fail
  go_ret
  exact⟨rfl,d_ w _⟩
theorem b0j(n:Int){x:X}{cs:List Value}{w:World}(h:XR w x cs)(hlen:(txt x).length<=1099511627776)(HI:∀w':World,Below w.heap.size w w'->Calls Tryz.prog 31 #[.agg cs.toArray] w' (Ret w' (.string ⟨(txt x).toArray⟩))) :
  Calls Tryz.prog 78 #[.agg cs.toArray,.int .i64 n] w (Ret w (.string ⟨(opd n x).toArray⟩)):=by
 have HX:=h_ h
 have HI:=h_ HI
 have HT:Hid (opd n x=paren (decide (level x<n)) (txt x)):=h_ rfl
 have HLV:=h_ fun(w':World) (hw':Below w.heap.size w w')=>a2Q (h.kept hw' (Nat.le_refl _))
 generalize level x=lv at HT HLV
 obtain⟨op,int,vk,vi,vs,nm,l⟩:=x
 generalize txt (.mk op int vk vi vs nm l)=y at HT hlen HI
 obtain⟨a,m,rfl,hl,hvs,hnm,hl3⟩:=h.lits
 clear h hl
 have y1:¬maxLen<1+y.length:=by unfold maxLen;omega
 have y2:¬maxLen<1+y.length+1:=by unfold maxLen;omega
 have hsz:=mkS y
 go_enter Tryz.func78,Tryz.ntmps78
 go_upto_region 1 with(fail)
 refine nA fun w1 hB hw1 hz1=>?_
 have HW:=h_ hw1
 have HBk:=h_ hB
 obtain⟨p0,p1,p2,p3,p4,p5,p6⟩:=hB.c7
 clear hB hw1 hz1
 go_wp2_with fail
 refine(HLV.out w1 HW.out).mono ?_
 rintro e w2 ⟨rfl,hw2⟩
 have HB2:=h_ (HBk.out.below hw2)
 have HW2:=t_ HW hw2
 clear hw2 HBk HW p0 p1 p2 p3 p4 p5 p6
 obtain⟨p0,p1,p2,p3,p4,p5,p6⟩:=HB2.out.c7
 have HX2:=h_ (Ret.at_ (HI.out w2 HW2.out) HW2.out)
 by_cases hlt:lv<n
 ·have HT2:Hid (opd n (.mk op int vk vi vs nm l)=40::(y++[41])):=h_ (by rw[HT.out,decide_eq_true hlt];rfl)
  go_wp2_with fail
  refine HX2.out.mono ?_
  rintro e w3 ⟨rfl,hw3⟩
  go_wp2_with fail
  go_ret
  rw[HT2.out]
  exact Ret.str (by simp[ByteArray.data_append]) hw3
 ·have HT2:Hid (opd n (.mk op int vk vi vs nm l)=y):=h_ (by rw[HT.out,decide_eq_false hlt];rfl)
  go_wp2_with fail
  refine HX2.out.mono ?_
  rintro e w3 ⟨rfl,hw3⟩
  go_wp2_with fail
  go_ret
  rw[HT2.out]
  exact⟨rfl,hw3⟩
theorem a2Z(least:Int)(sep:S)(l:List X)(a:Option Addr)(c:Nat)(w:World)(hv:XL w l (.slice a l.length c))(hlen:(Lib.join (P_ least l) sep).length<=1099511627776)(hsep:sep.length<=1000)(hop:∀x∈l,(opd least x).length<=1099511627776)(HO:∀x∈l,∀(n:Int) (cs:List Value) (w':World),Below w.heap.size w w'->XR w' x cs->Calls Tryz.prog 78 #[.agg cs.toArray,.int .i64 n] w' (Ret w' (.string ⟨(opd n x).toArray⟩))) :
  Calls Tryz.prog 77 #[.slice a l.length c,.string ⟨sep.toArray⟩,.int .i64 least] w (Ret w (.string ⟨(Lib.join (P_ least l) sep).toArray⟩)):=by
 have HL:=h_ hv
 have HO:=h_ HO
 have HOP:=h_ hop
 have HLN:=h_ fun k=>Nat.le_trans (b9n least l sep k) hlen
 have hs3:=mkS sep
 have hll:=hv.len
 clear hv hlen hop
 go_enter Tryz.func77,Tryz.ntmps77
 go_wp2_with fail
 go_loopw [7,8] (fun s i wr=>∃k:Nat,k<=l.length/\i=.int .i64 (k:Int)/\s=.string ⟨(Lib.join (P_ least (l.take k)) sep).toArray⟩/\Below w.heap.size w wr) (fun _ i _=>l.length - (intOf i).toNat)
 case atStart=>exact⟨0,Nat.zero_le _,rfl,by simp[P_,Lib.join_nil],Below.refl _ _⟩
 case round=>
  obtain⟨k,hk,rfl,rfl,hb⟩:=hrel
  have HB:=h_ hb
  by_cases hlt:k<l.length
  ·obtain⟨g,o,us,eq,hec,hkx,hrx⟩:=HL.out.ec hlt
   subst eq
   have HX:=h_ hrx
   have hmem:=List.getElem_mem (l:=l) hlt
   obtain⟨eop,eint,evk,evi,evs,enm,el,ee⟩:∃eop eint evk evi evs enm el,l[k]=X.mk eop eint evk evi evs enm el:=by
    cases l[k]
    exact⟨_,_,_,_,_,_,_,rfl⟩
   have hrx2:XR w (X.mk eop eint evk evi evs enm el) us:=ee ▸ hrx
   obtain⟨ea,em,rfl,_⟩:=hrx2.lits
   have r0:=hec.at0 hb (u:=_) rfl
   have r1:=hec.at_ hb (j:=1) rfl
   have r2:=hec.at_ hb (j:=2) rfl
   have r3:=hec.at_ hb (j:=3) rfl
   have r4:=hec.at_ hb (j:=4) rfl
   have r5:=hec.at_ hb (j:=5) rfl
   have r6:=hec.at_ hb (j:=6) rfl
   have gl:g<wr.heap.size:=by have:=hb.size;have:=hec.1;omega
   have HK:Hid (Lib.join (P_ least (l.take (k+1))) sep=if k=0 then opd least l[k] else Lib.join (P_ least (l.take k)) sep++sep++opd least l[k]):=h_ (c2R hlt)
   have HC:=h_ (HO.out l[k] hmem least _ wr hb (HX.out.kept hb (Nat.le_refl _)))
   have hj:=HLN.out k
   have hy:=HOP.out l[k] hmem
   clear hec hrx hrx2 ee HX hb
   have hs1:=mkS (opd least l[k])
   have hs2:=mkS (Lib.join (P_ least (l.take k)) sep)
   generalize opd least l[k]=y at HK HC hy hs1
   generalize hJ:Lib.join (P_ least (l.take k)) sep=s at HK hj hs2 |-
   have c2:(k:Int)<(l.length:Int):=by omega
   have c3:(0:Int)<=(k:Int):=by omega
   by_cases h0:k=0
   ·subst h0
    have hs0:s=[]:=by rw[<-hJ];simp[P_,Lib.join_nil]
    subst hs0
    clear hJ
    have HK:Hid (Lib.join (P_ least (l.take 1)) sep=y):=h_ (by rw[HK.out,if_pos rfl])
    have y1:¬maxLen<y.length:=by unfold maxLen;omega
    simp only[Nat.zero_mul,Nat.add_zero] at r0 r1 r2 r3 r4 r5 r6
    go_wp2_with fail
    refine HC.out.mono ?_
    rintro e w2 ⟨rfl,hw2⟩
    have HB2:=t_ HB hw2
    clear hw2
    go_wp2_with fail
    go_roundw
    case rel=>exact⟨1,by omega,rfl,by rw[HK.out];exact congrArg Value.string (str_eq (by simp[ByteArray.data_append])),HB2.out⟩
    case measure=>simp[intOf];omega
   ·clear hJ
    have HK:Hid (Lib.join (P_ least (l.take (k+1))) sep=s++sep++y):=h_ (by rw[HK.out,if_neg h0])
    have c4:(0:Int)<(k:Int):=by omega
    have y1:¬maxLen<s.length+sep.length:=by unfold maxLen;omega
    have y2:¬maxLen<s.length+sep.length+y.length:=by unfold maxLen;omega
    go_wp2_with fail
    refine HC.out.mono ?_
    rintro e w2 ⟨rfl,hw2⟩
    have HB2:=t_ HB hw2
    clear hw2
    go_wp2_with fail
    go_roundw
    case rel=>exact⟨k+1,by omega,by go_num,by rw[HK.out];exact congrArg Value.string (str_eq (by simp[ByteArray.data_append])),HB2.out⟩
    case measure=>simp[intOf];omega
  ·obtain rfl:k=l.length:=by omega
   have htk:l.take l.length=l:=List.take_length
   rw[htk]
   have d1:decide ((l.length:Int)<(l.length:Int))=false:=decide_eq_false (by omega)
   clear hb htk
   go_wp2_with fail
   go_ret
   exact⟨rfl,HB.out⟩
theorem b1J{x:X}{cs:List Value}{w:World}(h:XR w x cs)(hol:(opd 8 x).length<=1099511627776)(htl:(txt x).length<=1099511627776)(HI:∀w':World,Below w.heap.size w w'->Calls Tryz.prog 31 #[.agg cs.toArray] w' (Ret w' (.string ⟨(txt x).toArray⟩)))(HO:∀w':World,Below w.heap.size w w'->Calls Tryz.prog 78 #[.agg cs.toArray,.int .i64 8] w' (Ret w' (.string ⟨(opd 8 x).toArray⟩))) :
  Calls Tryz.prog 79 #[.agg cs.toArray] w (Ret w (.string ⟨(if number x then[45,40]++(txt x++[41]) else 45::opd 8 x).toArray⟩)):=by
 have HI:=h_ HI
 have HO:=h_ HO
 obtain⟨op,int,vk,vi,vs,nm,l⟩:=x
 have HT:Hid (number (.mk op int vk vi vs nm l)=(decide (op=1)&&decide (vk=1))):=h_ rfl
 have hsz:=mkS (opd 8 (.mk op int vk vi vs nm l))
 have hsz2:=mkS (txt (.mk op int vk vi vs nm l))
 generalize opd 8 (.mk op int vk vi vs nm l)=y at HO hol hsz |-
 generalize txt (.mk op int vk vi vs nm l)=z at HI htl hsz2 |-
 generalize number (.mk op int vk vi vs nm l)=nb at HT |-
 have HTX:Hid (∀b,nb=b->(if nb=true then[45,40]++(z++[41]) else 45::y)=(if b=true then[45,40]++(z++[41]) else 45::y)):=h_ (fun b e=>by rw[e])
 generalize(if nb=true then[45,40]++(z++[41]) else 45::y)=TX at HTX |-
 obtain⟨a,m,rfl,hl,_,_,_⟩:=h.lits
 clear h hl
 have y0:¬maxLen<1+y.length:=by unfold maxLen;omega
 have y1:¬maxLen<2+z.length:=by unfold maxLen;omega
 have y2:¬maxLen<2+z.length+1:=by unfold maxLen;omega
 go_enter Tryz.func79,Tryz.ntmps79
 go_upto_region 1 with(fail)
 refine nA fun w1 hB hw1 hz1=>?_
 have HW:=h_ hw1
 obtain⟨p0,p1,p2,p3,p4,p5,p6⟩:=hB.c7
 clear hB hw1 hz1
 have HO1:=h_ (Ret.at_ (HO.out w1 HW.out) HW.out)
 have HI1:=h_ (Ret.at_ (HI.out w1 HW.out) HW.out)
 clear HO HI
 by_cases h1:op=1
 ·subst h1
  by_cases h2:vk=1
  ·subst h2
   have HN:Hid (TX=[45,40]++(z++[41])):=h_ (HTX.out true (by rw[HT.out];rfl))
   go_wp2_with fail
   refine HI1.out.mono ?_
   rintro e w2 ⟨rfl,hw2⟩
   go_wp2_with fail
   go_ret
   rw[HN.out]
   exact Ret.str (by simp[ByteArray.data_append]) hw2
  ·have HN:Hid (TX=45::y):=h_ (HTX.out false (by rw[HT.out,decide_eq_false h2];rfl))
   have h2b:(vk==1)=false:=by simpa using h2
   go_wp2_with fail
   refine HO1.out.mono ?_
   rintro e w2 ⟨rfl,hw2⟩
   go_wp2_with fail
   go_ret
   rw[HN.out]
   exact Ret.str (by simp[ByteArray.data_append]) hw2
 ·have HN:Hid (TX=45::y):=h_ (HTX.out false (by rw[HT.out,decide_eq_false h1];rfl))
  have h1b:(op==1)=false:=by simpa using h1
  go_wp2_with fail
  refine HO1.out.mono ?_
  rintro e w2 ⟨rfl,hw2⟩
  go_wp2_with fail
  go_ret
  rw[HN.out]
  exact Ret.str (by simp[ByteArray.data_append]) hw2
theorem b5Z(int vk vi:Int)(vs nm:S)(l:List X)(cs:List Value)(w:World)(hp:pOk (.mk 1 int vk vi vs nm l)=true)(hE:Env w)(h:XR w (.mk 1 int vk vi vs nm l) cs)  :
  Calls Tryz.prog 31 #[.agg cs.toArray] w (Ret w (.string ⟨(txt (.mk 1 int vk vi vs nm l)).toArray⟩)):=by
 have HE:=h_ hE
 have HGOOD:=h_ (A_ _ _ (Nat.le_refl _) hp)
 obtain⟨ha,hpl,hr,hrl⟩:=E_ hp
 obtain⟨a,m,rfl,hl,hvs,hnm,hlen⟩:=h.lits
 have HL:=h_ hl
 have HT:Hid (txt (.mk 1 int vk vi vs nm l)=a2k vk vi vs):=h_ (by rw[a0m];rfl)
 have HVS:Hid (vs.length<=140737488351232):=h_ (by have hv:G_ vk vi vs=true:=(by have:a0o 1 int vk vi vs nm=(G_ vk vi vs&&(decide (int=0)&&nm.isEmpty)):=rfl;rw[this,Bool.and_eq_true] at hr;exact hr.1);exact a7P hv)
 clear hE h hl hp
 go_enter Tryz.func31,Tryz.ntmps31
 go_upto_region 1 with(fail)
 refine nA fun w1 hB hw1 hz1=>?_
 have HW:=h_ hw1
 have HBk:=h_ hB
 have hE1:=HE.out.below hw1
 have HE1:=h_ hE1
 have p0:=hB.cell 0 rfl
 clear hB hw1 hE1 hz1
 have p2:=HBk.out.cell 2 rfl
 have p3:=HBk.out.cell 3 rfl
 have p4:=HBk.out.cell 4 rfl
 go_wp2_with fail
 refine(b0h vk vi vs w1 HVS.out).mono ?_
 rintro e w2 ⟨rfl,hw2⟩
 have HW2:=t_ HW hw2
 clear hw2
 go_wp2_with fail
 go_ret
 rw[HT.out]
 exact⟨rfl,HW2.out⟩
theorem b8l(int vk vi:Int)(vs nm:S)(l:List X)(cs:List Value)(w:World)(hp:pOk (.mk 3 int vk vi vs nm l)=true)(hE:Env w)(h:XR w (.mk 3 int vk vi vs nm l) cs)  :
  Calls Tryz.prog 31 #[.agg cs.toArray] w (Ret w (.string ⟨(txt (.mk 3 int vk vi vs nm l)).toArray⟩)):=by
 have HE:=h_ hE
 have HGOOD:=h_ (A_ _ _ (Nat.le_refl _) hp)
 obtain⟨ha,hpl,hr,hrl⟩:=E_ hp
 obtain⟨a,m,rfl,hl,hvs,hnm,hlen⟩:=h.lits
 have HL:=h_ hl
 have HT:Hid (txt (.mk 3 int vk vi vs nm l)=nm):=h_ (by rw[a0m];rfl)
 clear hE h hl hp
 go_enter Tryz.func31,Tryz.ntmps31
 go_upto_region 1 with(fail)
 refine nA fun w1 hB hw1 hz1=>?_
 have HW:=h_ hw1
 have HBk:=h_ hB
 have hE1:=HE.out.below hw1
 have HE1:=h_ hE1
 have p0:=hB.cell 0 rfl
 have p5:=hB.cell 5 rfl
 clear hB hw1 hE1 hz1
 go_wp2_with fail
 go_ret
 rw[HT.out]
 exact⟨rfl,HW.out⟩
theorem b2K(int vk vi:Int)(vs nm:S)(l:List X)(cs:List Value)(w:World)(hp:pOk (.mk 26 int vk vi vs nm l)=true)(hE:Env w)(h:XR w (.mk 26 int vk vi vs nm l) cs)  :
  Calls Tryz.prog 31 #[.agg cs.toArray] w (Ret w (.string ⟨(txt (.mk 26 int vk vi vs nm l)).toArray⟩)):=by
 have HE:=h_ hE
 have HGOOD:=h_ (A_ _ _ (Nat.le_refl _) hp)
 obtain⟨ha,hpl,hr,hrl⟩:=E_ hp
 obtain⟨a,m,rfl,hl,hvs,hnm,hlen⟩:=h.lits
 have HL:=h_ hl
 have HT:Hid (txt (.mk 26 int vk vi vs nm l)=a0u int++40::(nm++[41])):=h_ (by rw[a0m];rfl)
 have hnl:nm.length<=24:=b3e hr
 have hbl:=a6Y int
 have HIN:=h_ (c3d hr)
 have hs1:=mkS nm
 have hs2:=mkS (a0u int)
 clear hE h hl hp
 go_enter Tryz.func31,Tryz.ntmps31
 go_upto_region 1 with(fail)
 refine nA fun w1 hB hw1 hz1=>?_
 have HW:=h_ hw1
 have HBk:=h_ hB
 have hE1:=HE.out.below hw1
 have HE1:=h_ hE1
 have p0:=hB.cell 0 rfl
 clear hB hw1 hE1 hz1
 have HBD:=h_ fun w'=>b3h int w' HIN.out
 generalize a0u int=bb at HT hbl hs2 HBD
 go_upto_region 7 with(fail)
 have hb0:Below w1.heap.size w1 {w1 with drawn:=w1.drawn+1}:=belowD w1 1
 refine Gr.f_ 8 (by kernel_rfl) (by kernel_rfl) (fun w'=>Below w1.heap.size w1 w') hb0 ?_
 simp only[List.take_succ_cons,List.take_zero,List.drop_succ_cons,List.drop_zero]
 clear p0 hb0
 iterate 8
  first
  |apply Gr.sn (.string ⟨bb.toArray⟩);focus(go_simp;intro w' hw';go_simp;rw[Gr.b_];exact Ret.fam (HBD.out w') hw';done)
  |apply Gr.sn;focus(go_simp;intro w' hw';go_simp;rw[Gr.a_];done)
  |apply Gr.sn;focus(go_simp;intro w' hw';have p1:=(HBk.out.below hw').cell 1 rfl;go_simp;rw[Gr.a_];done)
  |apply Gr.sn;focus(go_simp;intro w' hw';have p5:=(HBk.out.below hw').cell 5 rfl;go_simp;rw[Gr.a_];done)
  |apply Gr.sn;focus(go_simp;intro w' hw';go_simp;rw[if_neg (show ¬9223372036854775807<bb.length+1 by omega),Gr.a_];done)
  |apply Gr.sn;focus(go_simp;intro w' hw';go_simp;rw[if_neg (show ¬9223372036854775807<bb.length+1+nm.length by omega),Gr.a_];done)
  |apply Gr.sn;focus(go_simp;intro w' hw';go_simp;rw[if_neg (show ¬9223372036854775807<bb.length+1+nm.length+1 by omega),Gr.a_];done)
  intro K hK;go_simp;refine hK _ ?_;clear hK K
 refine Gr.o_ fun w4 hw4=>?_
 have HW4:=t_ HW hw4
 clear hw4
 go_wp2_with fail
 go_ret
 rw[HT.out]
 exact Ret.str (by simp[ByteArray.data_append]) HW4.out
theorem b9c(int vk vi:Int)(vs nm:S)(l:List X)(cs:List Value)(w:World)(hp:pOk (.mk 25 int vk vi vs nm l)=true)(hE:Env w)(h:XR w (.mk 25 int vk vi vs nm l) cs)  :
  Calls Tryz.prog 31 #[.agg cs.toArray] w (Ret w (.string ⟨(txt (.mk 25 int vk vi vs nm l)).toArray⟩)):=by
 have HE:=h_ hE
 have HGOOD:=h_ (A_ _ _ (Nat.le_refl _) hp)
 obtain⟨ha,hpl,hr,hrl⟩:=E_ hp
 obtain⟨a,m,rfl,hl,hvs,hnm,hlen⟩:=h.lits
 have HL:=h_ hl
 obtain⟨x0,x1,rfl⟩:=b9i (of_decide_eq_true (show decide (l.length=2)=true from ha))
 have HT:Hid (txt (.mk 25 int vk vi vs nm [x0,x1])=x0.nm++32::(a0k int++32::x1.nm)):=h_ (by rw[a0m];rfl)
 have hn0:=a1a (hrl rfl x0 (by simp)).2
 have hn1:=a1a (hrl rfl x1 (by simp)).2
 have hnr:=b2q int
 have HRN:Hid (a0k int ≠ []):=h_ (b9Y hr)
 clear hE h hl hp
 go_enter Tryz.func31,Tryz.ntmps31
 go_upto_region 1 with(fail)
 refine nA fun w1 hB hw1 hz1=>?_
 have HW:=h_ hw1
 have HBk:=h_ hB
 have hE1:=HE.out.below hw1
 have HE1:=h_ hE1
 have p0:=hB.cell 0 rfl
 clear hB hw1 hE1 hz1
 simp only[List.length_cons,List.length_nil,Nat.zero_add] at *
 obtain⟨g,o,us,eq,hgl,hcell,_,hrx⟩:=HL.out.at_ (k:=0) (by decide)
 subst eq
 obtain⟨g',o',us',eq',hgl',hcell',_,hrx'⟩:=HL.out.at_ (k:=1) (by decide)
 injection eq' with eq'
 injection eq' with eg eo
 subst eg eo
 obtain⟨op0,int0,vk0,vi0,vs0,nm0,l0⟩:=x0
 obtain⟨op1,int1,vk1,vi1,vs1,nm1,l1⟩:=x1
 have hq0:us[5]? = some (.string ⟨nm0.toArray⟩):=by obtain⟨_,_,rfl,_⟩:=(show XR w (.mk op0 int0 vk0 vi0 vs0 nm0 l0) us from hrx).lits;rfl
 have hq1:us'[5]? = some (.string ⟨nm1.toArray⟩):=by obtain⟨_,_,rfl,_⟩:=(show XR w (.mk op1 int1 vk1 vi1 vs1 nm1 l1) us' from hrx').lits;rfl
 have HC0:=h_ (hcell 5 _ hq0)
 have HC1:=h_ (hcell' 5 _ hq1)
 clear hcell hcell' hrx hrx' hq0 hq1
 have HT:Hid (txt (.mk 25 int vk vi vs nm [.mk op0 int0 vk0 vi0 vs0 nm0 l0,.mk op1 int1 vk1 vi1 vs1 nm1 l1])=nm0++32::(a0k int++32::nm1)):=HT
 have hn0:nm0.length<=24/\nm0 ≠ []:=hn0
 have hn1:nm1.length<=24/\nm1 ≠ []:=hn1
 have HBD:=h_ fun w'=>b7t int w'
 generalize a0k int=bb at HT hnr HBD HRN
 go_upto_region 9 with(fail)
 have hb0:Below w1.heap.size w1 {w1 with drawn:=w1.drawn+1}:=belowD w1 1
 refine Gr.f_ 17 (by kernel_rfl) (by kernel_rfl) (fun w'=>Below w1.heap.size w1 w') hb0 ?_
 simp only[List.take_succ_cons,List.take_zero,List.drop_succ_cons,List.drop_zero]
 clear p0 hb0
 iterate 17
  first
  |apply Gr.sn (.string ⟨bb.toArray⟩);focus(go_simp;intro w' hw';go_simp;rw[Gr.b_];exact Ret.fam (HBD.out w') hw';done)
  |apply Gr.sn;focus(go_simp;intro w' hw';go_simp;rw[Gr.a_];done)
  |apply Gr.sn;focus(go_simp;intro w' hw';have p6:=(HBk.out.below hw').cell 6 rfl;go_simp;rw[Gr.a_];done)
  |apply Gr.sn;focus(go_simp;intro w' hw';have p1:=(HBk.out.below hw').cell 1 rfl;go_simp;rw[Gr.a_];done)
  |apply Gr.sn;focus(go_simp;intro w' hw';go_simp;rw[if_neg (show ¬9223372036854775807<nm0.length+1 by omega),Gr.a_];done)
  |apply Gr.sn;focus(go_simp;intro w' hw';go_simp;rw[if_neg (show ¬9223372036854775807<nm0.length+1+bb.length by omega),Gr.a_];done)
  |apply Gr.sn;focus(go_simp;intro w' hw';go_simp;rw[if_neg (show ¬9223372036854775807<nm0.length+1+bb.length+1 by omega),Gr.a_];done)
  |apply Gr.sn;focus(go_simp;intro w' hw';go_simp;rw[if_neg (show ¬9223372036854775807<nm0.length+1+bb.length+1+nm1.length by omega),Gr.a_];done)
  |apply Gr.sn;focus(go_simp;intro w' hw';have q:=((HW.out.trans (hw'.mono HW.out.size)).cell (p:=⟨g,o+1*7+5,none⟩) hgl).trans HC1.out;simp only[Nat.one_mul] at q;go_simp;rw[Gr.a_];done)
  |apply Gr.sn;focus(go_simp;intro w' hw';have q:=((HW.out.trans (hw'.mono HW.out.size)).cell (p:=⟨g,o+0*7+5,none⟩) hgl).trans HC0.out;simp only[Nat.zero_mul,Nat.add_zero] at q;go_simp;rw[Gr.a_];done)
  intro K hK;go_simp;refine hK _ ?_;clear hK K
 refine Gr.o_ fun w4 hw4=>?_
 have HW4:=t_ HW hw4
 clear hw4
 go_wp2_with fail
 go_ret
 rw[HT.out]
 exact Ret.str (by simp[ByteArray.data_append]) HW4.out
theorem a2U{op int vk vi:Int}{vs nm:S}{l:List X}(hN:nodes (.mk op int vk vi vs nm l)<=1000000)(hpl:∀x∈l,pOk x=true)(n:Int)(sep:S)(hs:sep.length<=50):(Lib.join (P_ n l) sep).length<=1000000000:=by
 have k1:=a3H n l fun x hx=>(A_ _ x (Nat.le_refl _) (hpl x hx)).2
 rw[nodes] at hN
 have k2:(Lib.join (P_ n l) sep).length<=Lib.lens (P_ n l)+50*l.length:=by
  cases l with
  |nil=>simp[P_,Lib.join_nil]
  |cons a l=>
   rw[P_,Lib.join_length,a3l]
   simp only[List.length_cons]
   have:sep.length*l.length<=50*l.length:=Nat.mul_le_mul_right _ hs
   omega
 omega
theorem c1y{int vk vi:Int}{vs nm:S}{l:List X}(ha:a0D 6 l.length=true):txt (.mk 6 int vk vi vs nm l)=Lib.join (P_ 2 l) [32,79,82,32]:=by
 obtain⟨a,b,r,rfl⟩:=a5W (of_decide_eq_true (show decide (2<=l.length)=true from ha))
 rw[a0m]
 rfl
theorem c2b{int vk vi:Int}{vs nm:S}{l:List X}(ha:a0D 5 l.length=true):txt (.mk 5 int vk vi vs nm l)=Lib.join (P_ 3 l) [32,65,78,68,32]:=by
 obtain⟨a,b,r,rfl⟩:=a5W (of_decide_eq_true (show decide (2<=l.length)=true from ha))
 rw[a0m]
 rfl
theorem c0o(int vk vi:Int)(vs nm:S)(l:List X)(cs:List Value)(w:World)(hp:pOk (.mk 6 int vk vi vs nm l)=true)(hE:Env w)(h:XR w (.mk 6 int vk vi vs nm l) cs)(hN:nodes (.mk 6 int vk vi vs nm l)<=1000000)(HO:∀x∈l,∀(n:Int) (cs:List Value) (w':World),Below w.heap.size w w'->XR w' x cs->Calls Tryz.prog 78 #[.agg cs.toArray,.int .i64 n] w' (Ret w' (.string ⟨(opd n x).toArray⟩))) :
  Calls Tryz.prog 31 #[.agg cs.toArray] w (Ret w (.string ⟨(txt (.mk 6 int vk vi vs nm l)).toArray⟩)):=by
 have HE:=h_ hE
 have HGOOD:=h_ (A_ _ _ (Nat.le_refl _) hp)
 obtain⟨ha,hpl,hr,hrl⟩:=E_ hp
 obtain⟨a,m,rfl,hl,hvs,hnm,hlen⟩:=h.lits
 have HL:=h_ hl
 have HO:=h_ HO
 have HT:Hid (txt (.mk 6 int vk vi vs nm l)=Lib.join (P_ 2 l) [32,79,82,32]):=h_ (c1y ha)
 have hjl:(Lib.join (P_ 2 l) [32,79,82,32]).length<=1000000000:=a2U hN hpl _ _ (by decide)
 have hs3:=mkS (Lib.join (P_ 2 l) [32,79,82,32])
 have HOP:=h_ fun x hx=>Nat.le_trans (L_ hN (n:=2) (hpl x hx) hx) (by decide:1000000000<=1099511627776)
 clear hE h hl hp
 go_enter Tryz.func31,Tryz.ntmps31
 go_upto_region 1 with(fail)
 refine nA fun w1 hB hw1 hz1=>?_
 have HW:=h_ hw1
 have HBk:=h_ hB
 have hE1:=HE.out.below hw1
 have HE1:=h_ hE1
 have p0:=hB.cell 0 rfl
 have p6:=hB.cell 6 rfl
 clear hB hw1 hE1 hz1
 have HTX:=h_ (a2Z 2 [32,79,82,32] l a m w1 (HL.out.kept HW.out (Nat.le_refl _)) (by omega) (by decide) HOP.out (fun x hx n cs w2 hb hr=>HO.out x hx n cs w2 (HW.out.trans (hb.mono HW.out.size)) hr))
 clear HO HOP
 generalize Lib.join (P_ 2 l) [32,79,82,32]=z at HT hjl hs3 HTX
 go_wp2_with fail
 refine HTX.out.mono ?_
 rintro e w2 ⟨rfl,hw2⟩
 have HW2:=t_ HW hw2
 clear hw2
 go_wp2_with fail
 go_ret
 rw[HT.out]
 exact⟨rfl,HW2.out⟩
theorem b9m(int vk vi:Int)(vs nm:S)(l:List X)(cs:List Value)(w:World)(hp:pOk (.mk 5 int vk vi vs nm l)=true)(hE:Env w)(h:XR w (.mk 5 int vk vi vs nm l) cs)(hN:nodes (.mk 5 int vk vi vs nm l)<=1000000)(HO:∀x∈l,∀(n:Int) (cs:List Value) (w':World),Below w.heap.size w w'->XR w' x cs->Calls Tryz.prog 78 #[.agg cs.toArray,.int .i64 n] w' (Ret w' (.string ⟨(opd n x).toArray⟩))) :
  Calls Tryz.prog 31 #[.agg cs.toArray] w (Ret w (.string ⟨(txt (.mk 5 int vk vi vs nm l)).toArray⟩)):=by
 have HE:=h_ hE
 have HGOOD:=h_ (A_ _ _ (Nat.le_refl _) hp)
 obtain⟨ha,hpl,hr,hrl⟩:=E_ hp
 obtain⟨a,m,rfl,hl,hvs,hnm,hlen⟩:=h.lits
 have HL:=h_ hl
 have HO:=h_ HO
 have HT:Hid (txt (.mk 5 int vk vi vs nm l)=Lib.join (P_ 3 l) [32,65,78,68,32]):=h_ (c2b ha)
 have hjl:(Lib.join (P_ 3 l) [32,65,78,68,32]).length<=1000000000:=a2U hN hpl _ _ (by decide)
 have hs3:=mkS (Lib.join (P_ 3 l) [32,65,78,68,32])
 have HOP:=h_ fun x hx=>Nat.le_trans (L_ hN (n:=3) (hpl x hx) hx) (by decide:1000000000<=1099511627776)
 clear hE h hl hp
 go_enter Tryz.func31,Tryz.ntmps31
 go_upto_region 1 with(fail)
 refine nA fun w1 hB hw1 hz1=>?_
 have HW:=h_ hw1
 have HBk:=h_ hB
 have hE1:=HE.out.below hw1
 have HE1:=h_ hE1
 have p0:=hB.cell 0 rfl
 have p6:=hB.cell 6 rfl
 clear hB hw1 hE1 hz1
 have HTX:=h_ (a2Z 3 [32,65,78,68,32] l a m w1 (HL.out.kept HW.out (Nat.le_refl _)) (by omega) (by decide) HOP.out (fun x hx n cs w2 hb hr=>HO.out x hx n cs w2 (HW.out.trans (hb.mono HW.out.size)) hr))
 clear HO HOP
 generalize Lib.join (P_ 3 l) [32,65,78,68,32]=z at HT hjl hs3 HTX
 go_wp2_with fail
 refine HTX.out.mono ?_
 rintro e w2 ⟨rfl,hw2⟩
 have HW2:=t_ HW hw2
 clear hw2
 go_wp2_with fail
 go_ret
 rw[HT.out]
 exact⟨rfl,HW2.out⟩
theorem c0K(int vk vi:Int)(vs nm:S)(l:List X)(cs:List Value)(w:World)(hp:pOk (.mk 22 int vk vi vs nm l)=true)(hE:Env w)(h:XR w (.mk 22 int vk vi vs nm l) cs)(hN:nodes (.mk 22 int vk vi vs nm l)<=1000000)(HO:∀x∈l,∀(n:Int) (cs:List Value) (w':World),Below w.heap.size w w'->XR w' x cs->Calls Tryz.prog 78 #[.agg cs.toArray,.int .i64 n] w' (Ret w' (.string ⟨(opd n x).toArray⟩))) :
  Calls Tryz.prog 31 #[.agg cs.toArray] w (Ret w (.string ⟨(txt (.mk 22 int vk vi vs nm l)).toArray⟩)):=by
 have HE:=h_ hE
 have HGOOD:=h_ (A_ _ _ (Nat.le_refl _) hp)
 obtain⟨ha,hpl,hr,hrl⟩:=E_ hp
 obtain⟨a,m,rfl,hl,hvs,hnm,hlen⟩:=h.lits
 have HL:=h_ hl
 have HO:=h_ HO
 have HT:Hid (txt (.mk 22 int vk vi vs nm l)=[73,70,40]++(Lib.join (P_ 0 l) [44,32]++[41])):=h_ (by rw[a0m];rfl)
 have hjl:(Lib.join (P_ 0 l) [44,32]).length<=1000000000:=a2U hN hpl _ _ (by decide)
 have hs3:=mkS (Lib.join (P_ 0 l) [44,32])
 have HOP:=h_ fun x hx=>Nat.le_trans (L_ hN (n:=0) (hpl x hx) hx) (by decide:1000000000<=1099511627776)
 clear hE h hl hp
 go_enter Tryz.func31,Tryz.ntmps31
 go_upto_region 1 with(fail)
 refine nA fun w1 hB hw1 hz1=>?_
 have HW:=h_ hw1
 have HBk:=h_ hB
 have hE1:=HE.out.below hw1
 have HE1:=h_ hE1
 have p0:=hB.cell 0 rfl
 have p6:=hB.cell 6 rfl
 clear hB hw1 hE1 hz1
 have HTX:=h_ (a2Z 0 [44,32] l a m w1 (HL.out.kept HW.out (Nat.le_refl _)) (by omega) (by decide) HOP.out (fun x hx n cs w2 hb hr=>HO.out x hx n cs w2 (HW.out.trans (hb.mono HW.out.size)) hr))
 clear HO HOP
 generalize Lib.join (P_ 0 l) [44,32]=z at HT hjl hs3 HTX
 have y0:¬maxLen<3+z.length:=by unfold maxLen;omega
 have y1:¬maxLen<3+z.length+1:=by unfold maxLen;omega
 go_wp2_with fail
 refine HTX.out.mono ?_
 rintro e w2 ⟨rfl,hw2⟩
 have HW2:=t_ HW hw2
 clear hw2
 go_wp2_with fail
 go_ret
 rw[HT.out]
 exact Ret.str (by simp[ByteArray.data_append]) HW2.out
theorem a9X(int vk vi:Int)(vs nm:S)(l:List X)(cs:List Value)(w:World)(hp:pOk (.mk 23 int vk vi vs nm l)=true)(hE:Env w)(h:XR w (.mk 23 int vk vi vs nm l) cs)(hN:nodes (.mk 23 int vk vi vs nm l)<=1000000)(HO:∀x∈l,∀(n:Int) (cs:List Value) (w':World),Below w.heap.size w w'->XR w' x cs->Calls Tryz.prog 78 #[.agg cs.toArray,.int .i64 n] w' (Ret w' (.string ⟨(opd n x).toArray⟩))) :
  Calls Tryz.prog 31 #[.agg cs.toArray] w (Ret w (.string ⟨(txt (.mk 23 int vk vi vs nm l)).toArray⟩)):=by
 have HE:=h_ hE
 have HGOOD:=h_ (A_ _ _ (Nat.le_refl _) hp)
 obtain⟨ha,hpl,hr,hrl⟩:=E_ hp
 obtain⟨a,m,rfl,hl,hvs,hnm,hlen⟩:=h.lits
 have HL:=h_ hl
 have HO:=h_ HO
 have HT:Hid (txt (.mk 23 int vk vi vs nm l)=[67,79,65,76,69,83,67,69,40]++(Lib.join (P_ 0 l) [44,32]++[41])):=h_ (by rw[a0m];rfl)
 have hjl:(Lib.join (P_ 0 l) [44,32]).length<=1000000000:=a2U hN hpl _ _ (by decide)
 have hs3:=mkS (Lib.join (P_ 0 l) [44,32])
 have HOP:=h_ fun x hx=>Nat.le_trans (L_ hN (n:=0) (hpl x hx) hx) (by decide:1000000000<=1099511627776)
 clear hE h hl hp
 go_enter Tryz.func31,Tryz.ntmps31
 go_upto_region 1 with(fail)
 refine nA fun w1 hB hw1 hz1=>?_
 have HW:=h_ hw1
 have HBk:=h_ hB
 have hE1:=HE.out.below hw1
 have HE1:=h_ hE1
 have p0:=hB.cell 0 rfl
 have p6:=hB.cell 6 rfl
 clear hB hw1 hE1 hz1
 have HTX:=h_ (a2Z 0 [44,32] l a m w1 (HL.out.kept HW.out (Nat.le_refl _)) (by omega) (by decide) HOP.out (fun x hx n cs w2 hb hr=>HO.out x hx n cs w2 (HW.out.trans (hb.mono HW.out.size)) hr))
 clear HO HOP
 generalize Lib.join (P_ 0 l) [44,32]=z at HT hjl hs3 HTX
 have y0:¬maxLen<9+z.length:=by unfold maxLen;omega
 have y1:¬maxLen<9+z.length+1:=by unfold maxLen;omega
 go_wp2_with fail
 refine HTX.out.mono ?_
 rintro e w2 ⟨rfl,hw2⟩
 have HW2:=t_ HW hw2
 clear hw2
 go_wp2_with fail
 go_ret
 rw[HT.out]
 exact Ret.str (by simp[ByteArray.data_append]) HW2.out
theorem b3F(int vk vi:Int)(vs nm:S)(l:List X)(cs:List Value)(w:World)(hp:pOk (.mk 21 int vk vi vs nm l)=true)(hE:Env w)(h:XR w (.mk 21 int vk vi vs nm l) cs)(hN:nodes (.mk 21 int vk vi vs nm l)<=1000000)(HO:∀x∈l,∀(n:Int) (cs:List Value) (w':World),Below w.heap.size w w'->XR w' x cs->Calls Tryz.prog 78 #[.agg cs.toArray,.int .i64 n] w' (Ret w' (.string ⟨(opd n x).toArray⟩))) :
  Calls Tryz.prog 31 #[.agg cs.toArray] w (Ret w (.string ⟨(txt (.mk 21 int vk vi vs nm l)).toArray⟩)):=by
 have HE:=h_ hE
 have HGOOD:=h_ (A_ _ _ (Nat.le_refl _) hp)
 obtain⟨ha,hpl,hr,hrl⟩:=E_ hp
 obtain⟨a,m,rfl,hl,hvs,hnm,hlen⟩:=h.lits
 have HL:=h_ hl
 have HO:=h_ HO
 obtain⟨x0,rfl⟩:=a2b (of_decide_eq_true (show decide (l.length=1)=true from ha))
 have HT:Hid (txt (.mk 21 int vk vi vs nm [x0])=opd 5 x0++[32,73,83,32,78,85,76,76]):=h_ (by rw[a0m];rfl)
 have hol:(opd 5 x0).length<=1000000000:=L_ hN (hpl x0 (by simp)) (by simp)
 have hsz:=mkS (opd 5 x0)
 clear hE h hl hp
 go_enter Tryz.func31,Tryz.ntmps31
 go_upto_region 1 with(fail)
 refine nA fun w1 hB hw1 hz1=>?_
 have HW:=h_ hw1
 have HBk:=h_ hB
 have hE1:=HE.out.below hw1
 have HE1:=h_ hE1
 have p0:=hB.cell 0 rfl
 have p6:=hB.cell 6 rfl
 clear hB hw1 hE1 hz1
 simp only[List.length_cons,List.length_nil,Nat.zero_add] at *
 obtain⟨g,o,us,eq,hgl,hcell,hkx,hrx⟩:=HL.out.at_ (k:=0) (by decide)
 subst eq
 have HX:Hid (XR w x0 us):=h_ hrx
 obtain⟨eop,eint,evk,evi,evs,enm,el,ee⟩:∃eop eint evk evi evs enm el,x0=X.mk eop eint evk evi evs enm el:=by
  cases x0
  exact⟨_,_,_,_,_,_,_,rfl⟩
 have hrx2:=hrx
 have hrx2:XR w (X.mk eop eint evk evi evs enm el) us:=ee ▸ hrx
 obtain⟨ea,em,rfl,_⟩:=hrx2.lits
 have rr:∀j (u:Value),([.int .i64 eop,.int .i64 eint,.int .i64 evk,.int .i64 evi,.string ⟨evs.toArray⟩,.string ⟨enm.toArray⟩,.slice ea el.length em]:List Value)[j]? = some u->w1.cell? ⟨g,o+0*7+j,none⟩=some u:=fun j u hu=>(HW.out.cell (by exact hgl)).trans (hcell j u hu)
 have r0:=rr 0 _ rfl
 have r1:=rr 1 _ rfl
 have r2:=rr 2 _ rfl
 have r3:=rr 3 _ rfl
 have r4:=rr 4 _ rfl
 have r5:=rr 5 _ rfl
 have r6:=rr 6 _ rfl
 simp only[Nat.zero_mul,Nat.add_zero] at r0 r1 r2 r3 r4 r5 r6
 have gl:g<w1.heap.size:=by have:=HW.out.size;omega
 clear rr hcell ee
 have HO1:=h_ (HO.out x0 (by simp) 5 _ w1 HW.out (HX.out.kept HW.out (Nat.le_refl _)))
 clear hrx hrx2 HO
 generalize opd 5 x0=y at HT hol HO1 hsz
 have y0:¬maxLen<y.length+8:=by unfold maxLen;omega
 go_wp2_with fail
 refine HO1.out.mono ?_
 rintro e w2 ⟨rfl,hw2⟩
 have HW2:=t_ HW hw2
 clear hw2
 go_wp2_with fail
 go_ret
 rw[HT.out]
 exact Ret.str (by simp[ByteArray.data_append]) HW2.out
theorem c0f(int vk vi:Int)(vs nm:S)(l:List X)(cs:List Value)(w:World)(hp:pOk (.mk 4 int vk vi vs nm l)=true)(hE:Env w)(h:XR w (.mk 4 int vk vi vs nm l) cs)(hN:nodes (.mk 4 int vk vi vs nm l)<=1000000)(HO:∀x∈l,∀(n:Int) (cs:List Value) (w':World),Below w.heap.size w w'->XR w' x cs->Calls Tryz.prog 78 #[.agg cs.toArray,.int .i64 n] w' (Ret w' (.string ⟨(opd n x).toArray⟩))) :
  Calls Tryz.prog 31 #[.agg cs.toArray] w (Ret w (.string ⟨(txt (.mk 4 int vk vi vs nm l)).toArray⟩)):=by
 have HE:=h_ hE
 have HGOOD:=h_ (A_ _ _ (Nat.le_refl _) hp)
 obtain⟨ha,hpl,hr,hrl⟩:=E_ hp
 obtain⟨a,m,rfl,hl,hvs,hnm,hlen⟩:=h.lits
 have HL:=h_ hl
 have HO:=h_ HO
 obtain⟨x0,rfl⟩:=a2b (of_decide_eq_true (show decide (l.length=1)=true from ha))
 have HT:Hid (txt (.mk 4 int vk vi vs nm [x0])=[78,79,84,32]++opd 3 x0):=h_ (by rw[a0m];rfl)
 have hol:(opd 3 x0).length<=1000000000:=L_ hN (hpl x0 (by simp)) (by simp)
 have hsz:=mkS (opd 3 x0)
 clear hE h hl hp
 go_enter Tryz.func31,Tryz.ntmps31
 go_upto_region 1 with(fail)
 refine nA fun w1 hB hw1 hz1=>?_
 have HW:=h_ hw1
 have HBk:=h_ hB
 have hE1:=HE.out.below hw1
 have HE1:=h_ hE1
 have p0:=hB.cell 0 rfl
 have p6:=hB.cell 6 rfl
 clear hB hw1 hE1 hz1
 simp only[List.length_cons,List.length_nil,Nat.zero_add] at *
 obtain⟨g,o,us,eq,hgl,hcell,hkx,hrx⟩:=HL.out.at_ (k:=0) (by decide)
 subst eq
 have HX:Hid (XR w x0 us):=h_ hrx
 obtain⟨eop,eint,evk,evi,evs,enm,el,ee⟩:∃eop eint evk evi evs enm el,x0=X.mk eop eint evk evi evs enm el:=by
  cases x0
  exact⟨_,_,_,_,_,_,_,rfl⟩
 have hrx2:=hrx
 have hrx2:XR w (X.mk eop eint evk evi evs enm el) us:=ee ▸ hrx
 obtain⟨ea,em,rfl,_⟩:=hrx2.lits
 have rr:∀j (u:Value),([.int .i64 eop,.int .i64 eint,.int .i64 evk,.int .i64 evi,.string ⟨evs.toArray⟩,.string ⟨enm.toArray⟩,.slice ea el.length em]:List Value)[j]? = some u->w1.cell? ⟨g,o+0*7+j,none⟩=some u:=fun j u hu=>(HW.out.cell (by exact hgl)).trans (hcell j u hu)
 have r0:=rr 0 _ rfl
 have r1:=rr 1 _ rfl
 have r2:=rr 2 _ rfl
 have r3:=rr 3 _ rfl
 have r4:=rr 4 _ rfl
 have r5:=rr 5 _ rfl
 have r6:=rr 6 _ rfl
 simp only[Nat.zero_mul,Nat.add_zero] at r0 r1 r2 r3 r4 r5 r6
 have gl:g<w1.heap.size:=by have:=HW.out.size;omega
 clear rr hcell ee
 have HO1:=h_ (HO.out x0 (by simp) 3 _ w1 HW.out (HX.out.kept HW.out (Nat.le_refl _)))
 clear hrx hrx2 HO
 generalize opd 3 x0=y at HT hol HO1 hsz
 have y0:¬maxLen<4+y.length:=by unfold maxLen;omega
 go_wp2_with fail
 refine HO1.out.mono ?_
 rintro e w2 ⟨rfl,hw2⟩
 have HW2:=t_ HW hw2
 clear hw2
 go_wp2_with fail
 go_ret
 rw[HT.out]
 exact Ret.str (by simp[ByteArray.data_append]) HW2.out
theorem b3r(int vk vi:Int)(vs nm:S)(l:List X)(cs:List Value)(w:World)(hp:pOk (.mk 20 int vk vi vs nm l)=true)(hE:Env w)(h:XR w (.mk 20 int vk vi vs nm l) cs)(hN:nodes (.mk 20 int vk vi vs nm l)<=1000000)(HI:∀x∈l,∀(cs:List Value) (w':World),Below w.heap.size w w'->XR w' x cs->Calls Tryz.prog 31 #[.agg cs.toArray] w' (Ret w' (.string ⟨(txt x).toArray⟩))) :
  Calls Tryz.prog 31 #[.agg cs.toArray] w (Ret w (.string ⟨(txt (.mk 20 int vk vi vs nm l)).toArray⟩)):=by
 have HE:=h_ hE
 have HGOOD:=h_ (A_ _ _ (Nat.le_refl _) hp)
 obtain⟨ha,hpl,hr,hrl⟩:=E_ hp
 obtain⟨a,m,rfl,hl,hvs,hnm,hlen⟩:=h.lits
 have HL:=h_ hl
 have HI:=h_ HI
 obtain⟨x0,rfl⟩:=a2b (of_decide_eq_true (show decide (l.length=1)=true from ha))
 have HT:Hid (txt (.mk 20 int vk vi vs nm [x0])=[76,69,78,71,84,72,40]++(txt x0++[41])):=h_ (by rw[a0m];show W_ 20++40::(Lib.join [opd 0 x0] [44,32]++[41])=_;rw[join_one,a1M];rfl)
 have htl:(opd 0 x0).length<=1000000000:=L_ hN (hpl x0 (by simp)) (by simp)
 rw[a1M] at htl
 have hol:(opd 8 x0).length<=1000000000:=L_ hN (hpl x0 (by simp)) (by simp)
 clear hE h hl hp
 go_enter Tryz.func31,Tryz.ntmps31
 go_upto_region 1 with(fail)
 refine nA fun w1 hB hw1 hz1=>?_
 have HW:=h_ hw1
 have HBk:=h_ hB
 have hE1:=HE.out.below hw1
 have HE1:=h_ hE1
 have p0:=hB.cell 0 rfl
 have p6:=hB.cell 6 rfl
 clear hB hw1 hE1 hz1
 simp only[List.length_cons,List.length_nil,Nat.zero_add] at *
 obtain⟨g,o,us,eq,hgl,hcell,hkx,hrx⟩:=HL.out.at_ (k:=0) (by decide)
 subst eq
 have HX:Hid (XR w x0 us):=h_ hrx
 obtain⟨eop,eint,evk,evi,evs,enm,el,ee⟩:∃eop eint evk evi evs enm el,x0=X.mk eop eint evk evi evs enm el:=by
  cases x0
  exact⟨_,_,_,_,_,_,_,rfl⟩
 have hrx2:=hrx
 have hrx2:XR w (X.mk eop eint evk evi evs enm el) us:=ee ▸ hrx
 obtain⟨ea,em,rfl,_⟩:=hrx2.lits
 have rr:∀j (u:Value),([.int .i64 eop,.int .i64 eint,.int .i64 evk,.int .i64 evi,.string ⟨evs.toArray⟩,.string ⟨enm.toArray⟩,.slice ea el.length em]:List Value)[j]? = some u->w1.cell? ⟨g,o+0*7+j,none⟩=some u:=fun j u hu=>(HW.out.cell (by exact hgl)).trans (hcell j u hu)
 have r0:=rr 0 _ rfl
 have r1:=rr 1 _ rfl
 have r2:=rr 2 _ rfl
 have r3:=rr 3 _ rfl
 have r4:=rr 4 _ rfl
 have r5:=rr 5 _ rfl
 have r6:=rr 6 _ rfl
 simp only[Nat.zero_mul,Nat.add_zero] at r0 r1 r2 r3 r4 r5 r6
 have gl:g<w1.heap.size:=by have:=HW.out.size;omega
 clear rr hcell ee
 have HC:=h_ (HI.out x0 (by simp) _ w1 HW.out (HX.out.kept HW.out (Nat.le_refl _)))
 clear hrx hrx2 HI
 generalize txt x0=z at HT htl HC
 have hs9:=mkS z
 have y0:¬maxLen<7+z.length:=by unfold maxLen;omega
 have y1:¬maxLen<7+z.length+1:=by unfold maxLen;omega
 go_wp2_with fail
 refine HC.out.mono ?_
 rintro e w2 ⟨rfl,hw2⟩
 have HW2:=t_ HW hw2
 clear hw2
 go_wp2_with fail
 go_ret
 rw[HT.out]
 exact Ret.str (by simp[ByteArray.data_append]) HW2.out
theorem b8Z(int vk vi:Int)(vs nm:S)(l:List X)(cs:List Value)(w:World)(hp:pOk (.mk 18 int vk vi vs nm l)=true)(hE:Env w)(h:XR w (.mk 18 int vk vi vs nm l) cs)(hN:nodes (.mk 18 int vk vi vs nm l)<=1000000)(HI:∀x∈l,∀(cs:List Value) (w':World),Below w.heap.size w w'->XR w' x cs->Calls Tryz.prog 31 #[.agg cs.toArray] w' (Ret w' (.string ⟨(txt x).toArray⟩)))(HO:∀x∈l,∀(n:Int) (cs:List Value) (w':World),Below w.heap.size w w'->XR w' x cs->Calls Tryz.prog 78 #[.agg cs.toArray,.int .i64 n] w' (Ret w' (.string ⟨(opd n x).toArray⟩))) :
  Calls Tryz.prog 31 #[.agg cs.toArray] w (Ret w (.string ⟨(txt (.mk 18 int vk vi vs nm l)).toArray⟩)):=by
 have HE:=h_ hE
 have HGOOD:=h_ (A_ _ _ (Nat.le_refl _) hp)
 obtain⟨ha,hpl,hr,hrl⟩:=E_ hp
 obtain⟨a,m,rfl,hl,hvs,hnm,hlen⟩:=h.lits
 have HL:=h_ hl
 have HI:=h_ HI
 have HO:=h_ HO
 obtain⟨x0,rfl⟩:=a2b (of_decide_eq_true (show decide (l.length=1)=true from ha))
 have HT:Hid (txt (.mk 18 int vk vi vs nm [x0])=(if number x0 then[45,40]++(txt x0++[41]) else 45::opd 8 x0)):=h_ (by rw[a0m];show(if number x0=true then[45,40]++(opd 0 x0++[41]) else 45::opd 8 x0)=_;rw[a1M])
 have htl:(opd 0 x0).length<=1000000000:=L_ hN (hpl x0 (by simp)) (by simp)
 rw[a1M] at htl
 have hol:(opd 8 x0).length<=1000000000:=L_ hN (hpl x0 (by simp)) (by simp)
 clear hE h hl hp
 go_enter Tryz.func31,Tryz.ntmps31
 go_upto_region 1 with(fail)
 refine nA fun w1 hB hw1 hz1=>?_
 have HW:=h_ hw1
 have HBk:=h_ hB
 have hE1:=HE.out.below hw1
 have HE1:=h_ hE1
 have p0:=hB.cell 0 rfl
 have p6:=hB.cell 6 rfl
 clear hB hw1 hE1 hz1
 simp only[List.length_cons,List.length_nil,Nat.zero_add] at *
 obtain⟨g,o,us,eq,hgl,hcell,hkx,hrx⟩:=HL.out.at_ (k:=0) (by decide)
 subst eq
 have HX:Hid (XR w x0 us):=h_ hrx
 obtain⟨eop,eint,evk,evi,evs,enm,el,ee⟩:∃eop eint evk evi evs enm el,x0=X.mk eop eint evk evi evs enm el:=by
  cases x0
  exact⟨_,_,_,_,_,_,_,rfl⟩
 have hrx2:=hrx
 have hrx2:XR w (X.mk eop eint evk evi evs enm el) us:=ee ▸ hrx
 obtain⟨ea,em,rfl,_⟩:=hrx2.lits
 have rr:∀j (u:Value),([.int .i64 eop,.int .i64 eint,.int .i64 evk,.int .i64 evi,.string ⟨evs.toArray⟩,.string ⟨enm.toArray⟩,.slice ea el.length em]:List Value)[j]? = some u->w1.cell? ⟨g,o+0*7+j,none⟩=some u:=fun j u hu=>(HW.out.cell (by exact hgl)).trans (hcell j u hu)
 have r0:=rr 0 _ rfl
 have r1:=rr 1 _ rfl
 have r2:=rr 2 _ rfl
 have r3:=rr 3 _ rfl
 have r4:=rr 4 _ rfl
 have r5:=rr 5 _ rfl
 have r6:=rr 6 _ rfl
 simp only[Nat.zero_mul,Nat.add_zero] at r0 r1 r2 r3 r4 r5 r6
 have gl:g<w1.heap.size:=by have:=HW.out.size;omega
 clear rr hcell ee
 have HC:=h_ (b1J (HX.out.kept HW.out (Nat.le_refl _)) (by omega) (by omega) (fun w2 hb=>HI.out x0 (by simp) _ w2 (HW.out.trans (hb.mono HW.out.size)) (HX.out.kept (HW.out.trans (hb.mono HW.out.size)) (Nat.le_refl _))) (fun w2 hb=>HO.out x0 (by simp) 8 _ w2 (HW.out.trans (hb.mono HW.out.size)) (HX.out.kept (HW.out.trans (hb.mono HW.out.size)) (Nat.le_refl _))))
 clear hrx hrx2 HI
 have hol:=hol
 clear hol htl
 generalize(if number x0 then[45,40]++(txt x0++[41]) else 45::opd 8 x0)=z at HT HC
 have hs9:=mkS z
 go_wp2_with fail
 refine HC.out.mono ?_
 rintro e w2 ⟨rfl,hw2⟩
 have HW2:=t_ HW hw2
 clear hw2
 go_wp2_with fail
 go_ret
 rw[HT.out]
 exact⟨rfl,HW2.out⟩
theorem b2u{op:Int}{n:Nat}(h:a0D op n=true)(hc:Chain op)(h5:op ≠ 5)(h6:op ≠ 6):n=2:=by
 obtain⟨n1,n2,n3,n4,n5,n6,n7,n8,n9,n10⟩:=hc
 unfold a0D at h
 rw[if_neg (by omega),if_neg (by omega),if_neg (by omega),if_neg (by omega),if_neg (by omega)] at h
 split at h
 ·exact of_decide_eq_true h
 ·cases h
theorem b1X{op int vk vi:Int}{vs nm:S}{x0 x1:X}{F n:Int}(hc:Chain op)(hF:a6i (R_ op vk vi)=F)(hn:R_ op vk vi+1=n):txt (.mk op int vk vi vs nm [x0,x1])=opd F x0++32::(W_ op++32::opd n x1):=by
 rw[b0X hc (by simp) hF hn]
 unfold mF
 simp[Lib.join_cons,Lib.joinTail]
theorem b4J(op int vk vi:Int)(vs nm:S)(l:List X)(cs:List Value)(w:World)(hch:Chain op)(h5:op ≠ 5)(h6:op ≠ 6)(hlv:R_ op vk vi=4)(hN:nodes (.mk op int vk vi vs nm l)<=1000000)(hp:pOk (.mk op int vk vi vs nm l)=true)(h:XR w (.mk op int vk vi vs nm l) cs)(HO:∀x∈l,∀(n:Int) (cs:List Value) (w':World),Below w.heap.size w w'->XR w' x cs->Calls Tryz.prog 78 #[.agg cs.toArray,.int .i64 n] w' (Ret w' (.string ⟨(opd n x).toArray⟩))) :
  Calls Tryz.prog 31 #[.agg cs.toArray] w (Ret w (.string ⟨(txt (.mk op int vk vi vs nm l)).toArray⟩)):=by
 have HO:=h_ HO
 obtain⟨ha,hpl,hr,hrl⟩:=E_ hp
 obtain⟨x0,x1,rfl⟩:=b9i (b2u ha hch h5 h6)
 have HT:=h_ (b1X (int:=int) (vs:=vs) (nm:=nm) (x0:=x0) (x1:=x1) hch (F:=5) (n:=5) (by rw[hlv];rfl) (by rw[hlv];rfl))
 have HLV:Hid (∀w':World,Below w.heap.size w w'->Calls Tryz.prog 80 #[.agg cs.toArray] w' (Ret w' (.int .i64 4))):=h_ fun w' hw'=>by
  have:=a2Q (h.kept hw' (Nat.le_refl _))
  rwa [show level (.mk op int vk vi vs nm [x0,x1])=4 from hlv] at this
 obtain⟨n1,n2,n3,n4,n5,n6,n7,n8,n9,n10⟩:=hch
 have HSG:=h_ fun w'=>a5p op w' ⟨h5,h6,n10,n8,n9⟩
 have hol0:(opd 5 x0).length<=1000000000:=L_ hN (hpl x0 (by simp)) (by simp)
 have hol1:(opd 5 x1).length<=1000000000:=L_ hN (hpl x1 (by simp)) (by simp)
 have hsl:=a2G op
 have hs0:=mkS (W_ op)
 have hs1:=mkS (opd 5 x0)
 have hs2:=mkS (opd 5 x1)
 obtain⟨a,m,rfl,hl,hvs,hnm,hlen⟩:=h.lits
 simp only[List.length_cons,List.length_nil,Nat.zero_add] at *
 have HL:=h_ hl
 obtain⟨g,o,us,eq,hec,_,hrx⟩:=hl.ec (k:=0) (by decide)
 subst eq
 obtain⟨g',o',us',eq',hec',_,hrx'⟩:=hl.ec (k:=1) (by decide)
 injection eq' with eq'
 injection eq' with eg eo
 subst eg eo
 have HX0:Hid (XR w x0 us):=h_ hrx
 have HX1:Hid (XR w x1 us'):=h_ hrx'
 have HO0:=h_ fun(w':World) (hw':Below w.heap.size w w')=>HO.out x0 (by simp) 5 _ w' hw' (HX0.out.kept hw' (Nat.le_refl _))
 have HO1:=h_ fun(w':World) (hw':Below w.heap.size w w')=>HO.out x1 (by simp) 5 _ w' hw' (HX1.out.kept hw' (Nat.le_refl _))
 generalize opd 5 x0=y at HT hol0 hs1 HO0
 generalize opd 5 x1=z at HT hol1 hs2 HO1
 generalize W_ op=sg at HT hsl hs0 HSG
 generalize txt (.mk op int vk vi vs nm [x0,x1])=TX at HT |-
 obtain⟨op0,int0,vk0,vi0,vs0,nm0,l0⟩:=x0
 obtain⟨op1,int1,vk1,vi1,vs1,nm1,l1⟩:=x1
 obtain⟨ea,em,rfl,_⟩:=(show XR w (.mk op0 int0 vk0 vi0 vs0 nm0 l0) us from hrx).lits
 obtain⟨ea',em',rfl,_⟩:=(show XR w (.mk op1 int1 vk1 vi1 vs1 nm1 l1) us' from hrx').lits
 simp only[Nat.zero_mul,Nat.add_zero,Nat.one_mul] at hec hec'
 have HE0:=h_ hec
 have HE1:=h_ hec'
 have b1:(op==1)=false:=by simpa using n1
 have b2:(op==3)=false:=by simpa using n2
 have b3:(op==26)=false:=by simpa using n3
 have b4:(op==25)=false:=by simpa using n4
 have b5:(op==21)=false:=by simpa using n5
 have b6:(op==4)=false:=by simpa using n6
 have b7:(op==18)=false:=by simpa using n7
 have b8:(op==22)=false:=by simpa using n8
 have b9:(op==23)=false:=by simpa using n9
 have b10:(op==20)=false:=by simpa using n10
 have b11:(op==5)=false:=by simpa using h5
 have b12:(op==6)=false:=by simpa using h6
 clear h hl hp ha hr hrl hpl hlv hN hrx hrx' hec hec' HO n1 n2 n3 n4 n5 n6 n7 n8 n9 n10 h5 h6
 go_enter Tryz.func31,Tryz.ntmps31
 go_upto_region 1 with(fail)
 refine nA fun w1 hB hw1 hz1=>?_
 have HW:=h_ hw1
 have HBk:=h_ hB
 obtain⟨p0,p1,p2,p3,p4,p5,p6⟩:=hB.c7
 clear hB hw1 hz1
 go_wp2_with fail
 refine(HLV.out w1 HW.out).mono ?_
 rintro e w2 ⟨rfl,hw2⟩
 have HB2:=h_ (HBk.out.below hw2)
 have HW2:=t_ HW hw2
 clear hw2 HBk HW HLV p0 p1 p2 p3 p4 p5 p6
 have p0:=HB2.out.cell 0 rfl
 go_upto_region 31 with(fail)
 have hb0:Below w2.heap.size w2 {w2 with drawn:=w2.drawn+1}:=belowD w2 1
 refine Gr.f_ 19 (by kernel_rfl) (by kernel_rfl) (fun w'=>Below w2.heap.size w2 w') hb0 ?_
 simp only[List.take_succ_cons,List.take_zero,List.drop_succ_cons,List.drop_zero]
 clear p0 hb0
 iterate 5
  first
  |apply Gr.sn;focus(go_simp;intro w' hw';go_simp;rw[Gr.a_];done)
  |apply Gr.sn;focus(go_simp;intro w' hw';have p6:=(HB2.out.below hw').cell 6 rfl;go_simp;rw[Gr.a_];done)
  |apply Gr.sn;focus(go_simp;intro w' hw';have q0:=HE0.out.at0 (HW2.out.trans (hw'.mono HW2.out.size)) (u:=_) rfl;have q1:=HE0.out.at_ (HW2.out.trans (hw'.mono HW2.out.size)) (j:=1) rfl;have q2:=HE0.out.at_ (HW2.out.trans (hw'.mono HW2.out.size)) (j:=2) rfl;have q3:=HE0.out.at_ (HW2.out.trans (hw'.mono HW2.out.size)) (j:=3) rfl;have q4:=HE0.out.at_ (HW2.out.trans (hw'.mono HW2.out.size)) (j:=4) rfl;have q5:=HE0.out.at_ (HW2.out.trans (hw'.mono HW2.out.size)) (j:=5) rfl;have q6:=HE0.out.at_ (HW2.out.trans (hw'.mono HW2.out.size)) (j:=6) rfl;go_simp;rw[Gr.a_];done)
  intro K hK;go_simp;refine hK _ ?_;clear hK K
 refine Gr.sn (.string ⟨y.toArray⟩) (by go_simp;intro w' hw';go_simp;rw[Gr.b_];exact Ret.fam (HO0.out w' (HW2.out.trans (hw'.mono HW2.out.size))) hw') fun K hK=>?_;go_simp;refine hK _ ?_;clear hK K
 iterate 3
  first
  |apply Gr.sn;focus(go_simp;intro w' hw';go_simp;rw[Gr.a_];done)
  |apply Gr.sn;focus(go_simp;intro w' hw';have p0:=(HB2.out.below hw').cell 0 rfl;go_simp;rw[Gr.a_];done)
  |apply Gr.sn;focus(go_simp;intro w' hw';go_simp;rw[if_neg (show ¬9223372036854775807<y.length+1 by omega),Gr.a_];done)
  intro K hK;go_simp;refine hK _ ?_;clear hK K
 refine Gr.sn (.string ⟨sg.toArray⟩) (by go_simp;intro w' hw';go_simp;rw[Gr.b_];exact Ret.fam (HSG.out w') hw') fun K hK=>?_;go_simp;refine hK _ ?_;clear hK K
 iterate 7
  first
  |apply Gr.sn;focus(go_simp;intro w' hw';go_simp;rw[Gr.a_];done)
  |apply Gr.sn;focus(go_simp;intro w' hw';have p6:=(HB2.out.below hw').cell 6 rfl;go_simp;rw[Gr.a_];done)
  |apply Gr.sn;focus(go_simp;intro w' hw';go_simp;rw[if_neg (show ¬9223372036854775807<y.length+1+sg.length by omega),Gr.a_];done)
  |apply Gr.sn;focus(go_simp;intro w' hw';go_simp;rw[if_neg (show ¬9223372036854775807<y.length+1+sg.length+1 by omega),Gr.a_];done)
  |apply Gr.sn;focus(go_simp;intro w' hw';have q0:=HE1.out.at0 (HW2.out.trans (hw'.mono HW2.out.size)) (u:=_) rfl;have q1:=HE1.out.at_ (HW2.out.trans (hw'.mono HW2.out.size)) (j:=1) rfl;have q2:=HE1.out.at_ (HW2.out.trans (hw'.mono HW2.out.size)) (j:=2) rfl;have q3:=HE1.out.at_ (HW2.out.trans (hw'.mono HW2.out.size)) (j:=3) rfl;have q4:=HE1.out.at_ (HW2.out.trans (hw'.mono HW2.out.size)) (j:=4) rfl;have q5:=HE1.out.at_ (HW2.out.trans (hw'.mono HW2.out.size)) (j:=5) rfl;have q6:=HE1.out.at_ (HW2.out.trans (hw'.mono HW2.out.size)) (j:=6) rfl;go_simp;rw[Gr.a_];done)
  intro K hK;go_simp;refine hK _ ?_;clear hK K
 refine Gr.sn (.string ⟨z.toArray⟩) (by go_simp;intro w' hw';go_simp;rw[Gr.b_];exact Ret.fam (HO1.out w' (HW2.out.trans (hw'.mono HW2.out.size))) hw') fun K hK=>?_;go_simp;refine hK _ ?_;clear hK K
 refine Gr.sn _ (by go_simp;intro w' hw';go_simp;rw[if_neg (show ¬9223372036854775807<y.length+1+sg.length+1+z.length by omega),Gr.a_]) fun K hK=>?_;go_simp;refine hK _ ?_;clear hK K
 refine Gr.o_ fun w4 hw4=>?_
 have HW4:=t_ HW2 hw4
 clear hw4
 go_wp2_with fail
 go_ret
 rw[HT.out]
 exact Ret.str (by simp[ByteArray.data_append]) HW4.out
theorem b5M(op int vk vi:Int)(vs nm:S)(l:List X)(cs:List Value)(w:World)(hch:Chain op)(h5:op ≠ 5)(h6:op ≠ 6)(hlv:R_ op vk vi=5)(hN:nodes (.mk op int vk vi vs nm l)<=1000000)(hp:pOk (.mk op int vk vi vs nm l)=true)(h:XR w (.mk op int vk vi vs nm l) cs)(HO:∀x∈l,∀(n:Int) (cs:List Value) (w':World),Below w.heap.size w w'->XR w' x cs->Calls Tryz.prog 78 #[.agg cs.toArray,.int .i64 n] w' (Ret w' (.string ⟨(opd n x).toArray⟩))) :
  Calls Tryz.prog 31 #[.agg cs.toArray] w (Ret w (.string ⟨(txt (.mk op int vk vi vs nm l)).toArray⟩)):=by
 have HO:=h_ HO
 obtain⟨ha,hpl,hr,hrl⟩:=E_ hp
 obtain⟨x0,x1,rfl⟩:=b9i (b2u ha hch h5 h6)
 have HT:=h_ (b1X (int:=int) (vs:=vs) (nm:=nm) (x0:=x0) (x1:=x1) hch (F:=5) (n:=6) (by rw[hlv];rfl) (by rw[hlv];rfl))
 have HLV:Hid (∀w':World,Below w.heap.size w w'->Calls Tryz.prog 80 #[.agg cs.toArray] w' (Ret w' (.int .i64 5))):=h_ fun w' hw'=>by
  have:=a2Q (h.kept hw' (Nat.le_refl _))
  rwa [show level (.mk op int vk vi vs nm [x0,x1])=5 from hlv] at this
 obtain⟨n1,n2,n3,n4,n5,n6,n7,n8,n9,n10⟩:=hch
 have HSG:=h_ fun w'=>a5p op w' ⟨h5,h6,n10,n8,n9⟩
 have hol0:(opd 5 x0).length<=1000000000:=L_ hN (hpl x0 (by simp)) (by simp)
 have hol1:(opd 6 x1).length<=1000000000:=L_ hN (hpl x1 (by simp)) (by simp)
 have hsl:=a2G op
 have hs0:=mkS (W_ op)
 have hs1:=mkS (opd 5 x0)
 have hs2:=mkS (opd 6 x1)
 obtain⟨a,m,rfl,hl,hvs,hnm,hlen⟩:=h.lits
 simp only[List.length_cons,List.length_nil,Nat.zero_add] at *
 have HL:=h_ hl
 obtain⟨g,o,us,eq,hec,_,hrx⟩:=hl.ec (k:=0) (by decide)
 subst eq
 obtain⟨g',o',us',eq',hec',_,hrx'⟩:=hl.ec (k:=1) (by decide)
 injection eq' with eq'
 injection eq' with eg eo
 subst eg eo
 have HX0:Hid (XR w x0 us):=h_ hrx
 have HX1:Hid (XR w x1 us'):=h_ hrx'
 have HO0:=h_ fun(w':World) (hw':Below w.heap.size w w')=>HO.out x0 (by simp) 5 _ w' hw' (HX0.out.kept hw' (Nat.le_refl _))
 have HO1:=h_ fun(w':World) (hw':Below w.heap.size w w')=>HO.out x1 (by simp) 6 _ w' hw' (HX1.out.kept hw' (Nat.le_refl _))
 generalize opd 5 x0=y at HT hol0 hs1 HO0
 generalize opd 6 x1=z at HT hol1 hs2 HO1
 generalize W_ op=sg at HT hsl hs0 HSG
 generalize txt (.mk op int vk vi vs nm [x0,x1])=TX at HT |-
 obtain⟨op0,int0,vk0,vi0,vs0,nm0,l0⟩:=x0
 obtain⟨op1,int1,vk1,vi1,vs1,nm1,l1⟩:=x1
 obtain⟨ea,em,rfl,_⟩:=(show XR w (.mk op0 int0 vk0 vi0 vs0 nm0 l0) us from hrx).lits
 obtain⟨ea',em',rfl,_⟩:=(show XR w (.mk op1 int1 vk1 vi1 vs1 nm1 l1) us' from hrx').lits
 simp only[Nat.zero_mul,Nat.add_zero,Nat.one_mul] at hec hec'
 have HE0:=h_ hec
 have HE1:=h_ hec'
 have b1:(op==1)=false:=by simpa using n1
 have b2:(op==3)=false:=by simpa using n2
 have b3:(op==26)=false:=by simpa using n3
 have b4:(op==25)=false:=by simpa using n4
 have b5:(op==21)=false:=by simpa using n5
 have b6:(op==4)=false:=by simpa using n6
 have b7:(op==18)=false:=by simpa using n7
 have b8:(op==22)=false:=by simpa using n8
 have b9:(op==23)=false:=by simpa using n9
 have b10:(op==20)=false:=by simpa using n10
 have b11:(op==5)=false:=by simpa using h5
 have b12:(op==6)=false:=by simpa using h6
 clear h hl hp ha hr hrl hpl hlv hN hrx hrx' hec hec' HO n1 n2 n3 n4 n5 n6 n7 n8 n9 n10 h5 h6
 go_enter Tryz.func31,Tryz.ntmps31
 go_upto_region 1 with(fail)
 refine nA fun w1 hB hw1 hz1=>?_
 have HW:=h_ hw1
 have HBk:=h_ hB
 obtain⟨p0,p1,p2,p3,p4,p5,p6⟩:=hB.c7
 clear hB hw1 hz1
 go_wp2_with fail
 refine(HLV.out w1 HW.out).mono ?_
 rintro e w2 ⟨rfl,hw2⟩
 have HB2:=h_ (HBk.out.below hw2)
 have HW2:=t_ HW hw2
 clear hw2 HBk HW HLV p0 p1 p2 p3 p4 p5 p6
 have p0:=HB2.out.cell 0 rfl
 go_upto_region 31 with(fail)
 have hb0:Below w2.heap.size w2 {w2 with drawn:=w2.drawn+1}:=belowD w2 1
 refine Gr.f_ 19 (by kernel_rfl) (by kernel_rfl) (fun w'=>Below w2.heap.size w2 w') hb0 ?_
 simp only[List.take_succ_cons,List.take_zero,List.drop_succ_cons,List.drop_zero]
 clear p0 hb0
 iterate 5
  first
  |apply Gr.sn;focus(go_simp;intro w' hw';go_simp;rw[Gr.a_];done)
  |apply Gr.sn;focus(go_simp;intro w' hw';have p6:=(HB2.out.below hw').cell 6 rfl;go_simp;rw[Gr.a_];done)
  |apply Gr.sn;focus(go_simp;intro w' hw';have q0:=HE0.out.at0 (HW2.out.trans (hw'.mono HW2.out.size)) (u:=_) rfl;have q1:=HE0.out.at_ (HW2.out.trans (hw'.mono HW2.out.size)) (j:=1) rfl;have q2:=HE0.out.at_ (HW2.out.trans (hw'.mono HW2.out.size)) (j:=2) rfl;have q3:=HE0.out.at_ (HW2.out.trans (hw'.mono HW2.out.size)) (j:=3) rfl;have q4:=HE0.out.at_ (HW2.out.trans (hw'.mono HW2.out.size)) (j:=4) rfl;have q5:=HE0.out.at_ (HW2.out.trans (hw'.mono HW2.out.size)) (j:=5) rfl;have q6:=HE0.out.at_ (HW2.out.trans (hw'.mono HW2.out.size)) (j:=6) rfl;go_simp;rw[Gr.a_];done)
  intro K hK;go_simp;refine hK _ ?_;clear hK K
 refine Gr.sn (.string ⟨y.toArray⟩) (by go_simp;intro w' hw';go_simp;rw[Gr.b_];exact Ret.fam (HO0.out w' (HW2.out.trans (hw'.mono HW2.out.size))) hw') fun K hK=>?_;go_simp;refine hK _ ?_;clear hK K
 iterate 3
  first
  |apply Gr.sn;focus(go_simp;intro w' hw';go_simp;rw[Gr.a_];done)
  |apply Gr.sn;focus(go_simp;intro w' hw';have p0:=(HB2.out.below hw').cell 0 rfl;go_simp;rw[Gr.a_];done)
  |apply Gr.sn;focus(go_simp;intro w' hw';go_simp;rw[if_neg (show ¬9223372036854775807<y.length+1 by omega),Gr.a_];done)
  intro K hK;go_simp;refine hK _ ?_;clear hK K
 refine Gr.sn (.string ⟨sg.toArray⟩) (by go_simp;intro w' hw';go_simp;rw[Gr.b_];exact Ret.fam (HSG.out w') hw') fun K hK=>?_;go_simp;refine hK _ ?_;clear hK K
 iterate 7
  first
  |apply Gr.sn;focus(go_simp;intro w' hw';go_simp;rw[Gr.a_];done)
  |apply Gr.sn;focus(go_simp;intro w' hw';have p6:=(HB2.out.below hw').cell 6 rfl;go_simp;rw[Gr.a_];done)
  |apply Gr.sn;focus(go_simp;intro w' hw';go_simp;rw[if_neg (show ¬9223372036854775807<y.length+1+sg.length by omega),Gr.a_];done)
  |apply Gr.sn;focus(go_simp;intro w' hw';go_simp;rw[if_neg (show ¬9223372036854775807<y.length+1+sg.length+1 by omega),Gr.a_];done)
  |apply Gr.sn;focus(go_simp;intro w' hw';have q0:=HE1.out.at0 (HW2.out.trans (hw'.mono HW2.out.size)) (u:=_) rfl;have q1:=HE1.out.at_ (HW2.out.trans (hw'.mono HW2.out.size)) (j:=1) rfl;have q2:=HE1.out.at_ (HW2.out.trans (hw'.mono HW2.out.size)) (j:=2) rfl;have q3:=HE1.out.at_ (HW2.out.trans (hw'.mono HW2.out.size)) (j:=3) rfl;have q4:=HE1.out.at_ (HW2.out.trans (hw'.mono HW2.out.size)) (j:=4) rfl;have q5:=HE1.out.at_ (HW2.out.trans (hw'.mono HW2.out.size)) (j:=5) rfl;have q6:=HE1.out.at_ (HW2.out.trans (hw'.mono HW2.out.size)) (j:=6) rfl;go_simp;rw[Gr.a_];done)
  intro K hK;go_simp;refine hK _ ?_;clear hK K
 refine Gr.sn (.string ⟨z.toArray⟩) (by go_simp;intro w' hw';go_simp;rw[Gr.b_];exact Ret.fam (HO1.out w' (HW2.out.trans (hw'.mono HW2.out.size))) hw') fun K hK=>?_;go_simp;refine hK _ ?_;clear hK K
 refine Gr.sn _ (by go_simp;intro w' hw';go_simp;rw[if_neg (show ¬9223372036854775807<y.length+1+sg.length+1+z.length by omega),Gr.a_]) fun K hK=>?_;go_simp;refine hK _ ?_;clear hK K
 refine Gr.o_ fun w4 hw4=>?_
 have HW4:=t_ HW2 hw4
 clear hw4
 go_wp2_with fail
 go_ret
 rw[HT.out]
 exact Ret.str (by simp[ByteArray.data_append]) HW4.out
theorem b5F(op int vk vi:Int)(vs nm:S)(l:List X)(cs:List Value)(w:World)(hch:Chain op)(h5:op ≠ 5)(h6:op ≠ 6)(hlv:R_ op vk vi=6)(hN:nodes (.mk op int vk vi vs nm l)<=1000000)(hp:pOk (.mk op int vk vi vs nm l)=true)(h:XR w (.mk op int vk vi vs nm l) cs)(HO:∀x∈l,∀(n:Int) (cs:List Value) (w':World),Below w.heap.size w w'->XR w' x cs->Calls Tryz.prog 78 #[.agg cs.toArray,.int .i64 n] w' (Ret w' (.string ⟨(opd n x).toArray⟩))) :
  Calls Tryz.prog 31 #[.agg cs.toArray] w (Ret w (.string ⟨(txt (.mk op int vk vi vs nm l)).toArray⟩)):=by
 have HO:=h_ HO
 obtain⟨ha,hpl,hr,hrl⟩:=E_ hp
 obtain⟨x0,x1,rfl⟩:=b9i (b2u ha hch h5 h6)
 have HT:=h_ (b1X (int:=int) (vs:=vs) (nm:=nm) (x0:=x0) (x1:=x1) hch (F:=6) (n:=7) (by rw[hlv];rfl) (by rw[hlv];rfl))
 have HLV:Hid (∀w':World,Below w.heap.size w w'->Calls Tryz.prog 80 #[.agg cs.toArray] w' (Ret w' (.int .i64 6))):=h_ fun w' hw'=>by
  have:=a2Q (h.kept hw' (Nat.le_refl _))
  rwa [show level (.mk op int vk vi vs nm [x0,x1])=6 from hlv] at this
 obtain⟨n1,n2,n3,n4,n5,n6,n7,n8,n9,n10⟩:=hch
 have HSG:=h_ fun w'=>a5p op w' ⟨h5,h6,n10,n8,n9⟩
 have hol0:(opd 6 x0).length<=1000000000:=L_ hN (hpl x0 (by simp)) (by simp)
 have hol1:(opd 7 x1).length<=1000000000:=L_ hN (hpl x1 (by simp)) (by simp)
 have hsl:=a2G op
 have hs0:=mkS (W_ op)
 have hs1:=mkS (opd 6 x0)
 have hs2:=mkS (opd 7 x1)
 obtain⟨a,m,rfl,hl,hvs,hnm,hlen⟩:=h.lits
 simp only[List.length_cons,List.length_nil,Nat.zero_add] at *
 have HL:=h_ hl
 obtain⟨g,o,us,eq,hec,_,hrx⟩:=hl.ec (k:=0) (by decide)
 subst eq
 obtain⟨g',o',us',eq',hec',_,hrx'⟩:=hl.ec (k:=1) (by decide)
 injection eq' with eq'
 injection eq' with eg eo
 subst eg eo
 have HX0:Hid (XR w x0 us):=h_ hrx
 have HX1:Hid (XR w x1 us'):=h_ hrx'
 have HO0:=h_ fun(w':World) (hw':Below w.heap.size w w')=>HO.out x0 (by simp) 6 _ w' hw' (HX0.out.kept hw' (Nat.le_refl _))
 have HO1:=h_ fun(w':World) (hw':Below w.heap.size w w')=>HO.out x1 (by simp) 7 _ w' hw' (HX1.out.kept hw' (Nat.le_refl _))
 generalize opd 6 x0=y at HT hol0 hs1 HO0
 generalize opd 7 x1=z at HT hol1 hs2 HO1
 generalize W_ op=sg at HT hsl hs0 HSG
 generalize txt (.mk op int vk vi vs nm [x0,x1])=TX at HT |-
 obtain⟨op0,int0,vk0,vi0,vs0,nm0,l0⟩:=x0
 obtain⟨op1,int1,vk1,vi1,vs1,nm1,l1⟩:=x1
 obtain⟨ea,em,rfl,_⟩:=(show XR w (.mk op0 int0 vk0 vi0 vs0 nm0 l0) us from hrx).lits
 obtain⟨ea',em',rfl,_⟩:=(show XR w (.mk op1 int1 vk1 vi1 vs1 nm1 l1) us' from hrx').lits
 simp only[Nat.zero_mul,Nat.add_zero,Nat.one_mul] at hec hec'
 have HE0:=h_ hec
 have HE1:=h_ hec'
 have b1:(op==1)=false:=by simpa using n1
 have b2:(op==3)=false:=by simpa using n2
 have b3:(op==26)=false:=by simpa using n3
 have b4:(op==25)=false:=by simpa using n4
 have b5:(op==21)=false:=by simpa using n5
 have b6:(op==4)=false:=by simpa using n6
 have b7:(op==18)=false:=by simpa using n7
 have b8:(op==22)=false:=by simpa using n8
 have b9:(op==23)=false:=by simpa using n9
 have b10:(op==20)=false:=by simpa using n10
 have b11:(op==5)=false:=by simpa using h5
 have b12:(op==6)=false:=by simpa using h6
 clear h hl hp ha hr hrl hpl hlv hN hrx hrx' hec hec' HO n1 n2 n3 n4 n5 n6 n7 n8 n9 n10 h5 h6
 go_enter Tryz.func31,Tryz.ntmps31
 go_upto_region 1 with(fail)
 refine nA fun w1 hB hw1 hz1=>?_
 have HW:=h_ hw1
 have HBk:=h_ hB
 obtain⟨p0,p1,p2,p3,p4,p5,p6⟩:=hB.c7
 clear hB hw1 hz1
 go_wp2_with fail
 refine(HLV.out w1 HW.out).mono ?_
 rintro e w2 ⟨rfl,hw2⟩
 have HB2:=h_ (HBk.out.below hw2)
 have HW2:=t_ HW hw2
 clear hw2 HBk HW HLV p0 p1 p2 p3 p4 p5 p6
 have p0:=HB2.out.cell 0 rfl
 go_upto_region 31 with(fail)
 have hb0:Below w2.heap.size w2 {w2 with drawn:=w2.drawn+1}:=belowD w2 1
 refine Gr.f_ 19 (by kernel_rfl) (by kernel_rfl) (fun w'=>Below w2.heap.size w2 w') hb0 ?_
 simp only[List.take_succ_cons,List.take_zero,List.drop_succ_cons,List.drop_zero]
 clear p0 hb0
 iterate 5
  first
  |apply Gr.sn;focus(go_simp;intro w' hw';go_simp;rw[Gr.a_];done)
  |apply Gr.sn;focus(go_simp;intro w' hw';have p6:=(HB2.out.below hw').cell 6 rfl;go_simp;rw[Gr.a_];done)
  |apply Gr.sn;focus(go_simp;intro w' hw';have q0:=HE0.out.at0 (HW2.out.trans (hw'.mono HW2.out.size)) (u:=_) rfl;have q1:=HE0.out.at_ (HW2.out.trans (hw'.mono HW2.out.size)) (j:=1) rfl;have q2:=HE0.out.at_ (HW2.out.trans (hw'.mono HW2.out.size)) (j:=2) rfl;have q3:=HE0.out.at_ (HW2.out.trans (hw'.mono HW2.out.size)) (j:=3) rfl;have q4:=HE0.out.at_ (HW2.out.trans (hw'.mono HW2.out.size)) (j:=4) rfl;have q5:=HE0.out.at_ (HW2.out.trans (hw'.mono HW2.out.size)) (j:=5) rfl;have q6:=HE0.out.at_ (HW2.out.trans (hw'.mono HW2.out.size)) (j:=6) rfl;go_simp;rw[Gr.a_];done)
  intro K hK;go_simp;refine hK _ ?_;clear hK K
 refine Gr.sn (.string ⟨y.toArray⟩) (by go_simp;intro w' hw';go_simp;rw[Gr.b_];exact Ret.fam (HO0.out w' (HW2.out.trans (hw'.mono HW2.out.size))) hw') fun K hK=>?_;go_simp;refine hK _ ?_;clear hK K
 iterate 3
  first
  |apply Gr.sn;focus(go_simp;intro w' hw';go_simp;rw[Gr.a_];done)
  |apply Gr.sn;focus(go_simp;intro w' hw';have p0:=(HB2.out.below hw').cell 0 rfl;go_simp;rw[Gr.a_];done)
  |apply Gr.sn;focus(go_simp;intro w' hw';go_simp;rw[if_neg (show ¬9223372036854775807<y.length+1 by omega),Gr.a_];done)
  intro K hK;go_simp;refine hK _ ?_;clear hK K
 refine Gr.sn (.string ⟨sg.toArray⟩) (by go_simp;intro w' hw';go_simp;rw[Gr.b_];exact Ret.fam (HSG.out w') hw') fun K hK=>?_;go_simp;refine hK _ ?_;clear hK K
 iterate 7
  first
  |apply Gr.sn;focus(go_simp;intro w' hw';go_simp;rw[Gr.a_];done)
  |apply Gr.sn;focus(go_simp;intro w' hw';have p6:=(HB2.out.below hw').cell 6 rfl;go_simp;rw[Gr.a_];done)
  |apply Gr.sn;focus(go_simp;intro w' hw';go_simp;rw[if_neg (show ¬9223372036854775807<y.length+1+sg.length by omega),Gr.a_];done)
  |apply Gr.sn;focus(go_simp;intro w' hw';go_simp;rw[if_neg (show ¬9223372036854775807<y.length+1+sg.length+1 by omega),Gr.a_];done)
  |apply Gr.sn;focus(go_simp;intro w' hw';have q0:=HE1.out.at0 (HW2.out.trans (hw'.mono HW2.out.size)) (u:=_) rfl;have q1:=HE1.out.at_ (HW2.out.trans (hw'.mono HW2.out.size)) (j:=1) rfl;have q2:=HE1.out.at_ (HW2.out.trans (hw'.mono HW2.out.size)) (j:=2) rfl;have q3:=HE1.out.at_ (HW2.out.trans (hw'.mono HW2.out.size)) (j:=3) rfl;have q4:=HE1.out.at_ (HW2.out.trans (hw'.mono HW2.out.size)) (j:=4) rfl;have q5:=HE1.out.at_ (HW2.out.trans (hw'.mono HW2.out.size)) (j:=5) rfl;have q6:=HE1.out.at_ (HW2.out.trans (hw'.mono HW2.out.size)) (j:=6) rfl;go_simp;rw[Gr.a_];done)
  intro K hK;go_simp;refine hK _ ?_;clear hK K
 refine Gr.sn (.string ⟨z.toArray⟩) (by go_simp;intro w' hw';go_simp;rw[Gr.b_];exact Ret.fam (HO1.out w' (HW2.out.trans (hw'.mono HW2.out.size))) hw') fun K hK=>?_;go_simp;refine hK _ ?_;clear hK K
 refine Gr.sn _ (by go_simp;intro w' hw';go_simp;rw[if_neg (show ¬9223372036854775807<y.length+1+sg.length+1+z.length by omega),Gr.a_]) fun K hK=>?_;go_simp;refine hK _ ?_;clear hK K
 refine Gr.o_ fun w4 hw4=>?_
 have HW4:=t_ HW2 hw4
 clear hw4
 go_wp2_with fail
 go_ret
 rw[HT.out]
 exact Ret.str (by simp[ByteArray.data_append]) HW4.out
theorem a9F:∀(N:Nat) (x:X) (cs:List Value) (w:World),nodes x<=N->N<=1000000->pOk x=true->Env w->XR w x cs->Calls Tryz.prog 31 #[.agg cs.toArray] w (Ret w (.string ⟨(txt x).toArray⟩))
 |0,x,_,_,h,_,_,_,_=>absurd (U_ x) (by omega)
 |N+1,.mk op int vk vi vs nm l,cs,w,hn,hN,hp,hE,h=>by
  have hn2:nodes (.mk op int vk vi vs nm l)<=1000000:=by omega
  rw[nodes] at hn
  obtain⟨ha,hpl,_,_⟩:=E_ hp
  have HI:∀x∈l,∀(cs:List Value) (w':World),Below w.heap.size w w'->XR w' x cs->Calls Tryz.prog 31 #[.agg cs.toArray] w' (Ret w' (.string ⟨(txt x).toArray⟩)):=
   fun x hx cs w' hw' hr=>a9F N x cs w' (by have:=M_ hx;omega) (by omega) (hpl x hx) (hE.below hw') hr
  have HO:∀x∈l,∀(n:Int) (cs:List Value) (w':World),Below w.heap.size w w'->XR w' x cs->Calls Tryz.prog 78 #[.agg cs.toArray,.int .i64 n] w' (Ret w' (.string ⟨(opd n x).toArray⟩)):=
   fun x hx n cs w' hw' hr=>b0j n hr (by have:=L_ hn2 (n:=0) (hpl x hx) hx;rw[a1M] at this;omega) (fun w2 hw2=>HI x hx cs w2 (hw'.trans (hw2.mono hw'.size)) (hr.kept hw2 (Nat.le_refl _)))
  by_cases c1:op=1
  ·subst c1;exact b5Z int vk vi vs nm l cs w hp hE h
  by_cases c3:op=3
  ·subst c3;exact b8l int vk vi vs nm l cs w hp hE h
  by_cases c26:op=26
  ·subst c26;exact b2K int vk vi vs nm l cs w hp hE h
  by_cases c25:op=25
  ·subst c25;exact b9c int vk vi vs nm l cs w hp hE h
  by_cases c21:op=21
  ·subst c21;exact b3F int vk vi vs nm l cs w hp hE h hn2 HO
  by_cases c4:op=4
  ·subst c4;exact c0f int vk vi vs nm l cs w hp hE h hn2 HO
  by_cases c18:op=18
  ·subst c18;exact b8Z int vk vi vs nm l cs w hp hE h hn2 HI HO
  by_cases c22:op=22
  ·subst c22;exact c0K int vk vi vs nm l cs w hp hE h hn2 HO
  by_cases c23:op=23
  ·subst c23;exact a9X int vk vi vs nm l cs w hp hE h hn2 HO
  by_cases c20:op=20
  ·subst c20;exact b3r int vk vi vs nm l cs w hp hE h hn2 HI
  by_cases c5:op=5
  ·subst c5;exact b9m int vk vi vs nm l cs w hp hE h hn2 HO
  by_cases c6:op=6
  ·subst c6;exact c0o int vk vi vs nm l cs w hp hE h hn2 HO
  have hc:Chain op:=⟨c1,c3,c26,c25,c21,c4,c18,c22,c23,c20⟩
  rcases b4n (vk:=vk) (vi:=vi) ha hc with e|e|e|e|e
  iterate 2
   ·exfalso;unfold R_ at e;rw[if_neg c6,if_neg c5,if_neg c4] at e;repeat' split at e
    all_goals omega
  ·exact b4J op int vk vi vs nm l cs w hc c5 c6 e hn2 hp h HO
  ·exact b5M op int vk vi vs nm l cs w hc c5 c6 e hn2 hp h HO
  ·exact b5F op int vk vi vs nm l cs w hc c5 c6 e hn2 hp h HO
end Go.Proofs.YtlimlmjljjmcpaaGreatDoor.Px
