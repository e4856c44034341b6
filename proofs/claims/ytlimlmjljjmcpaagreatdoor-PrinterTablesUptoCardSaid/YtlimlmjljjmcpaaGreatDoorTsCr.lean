import Derived.Test.YtlimlmjljjmcpaaGreatDoorTkR
import Derived.Test.YtlimlmjljjmcpaaGreatDoorTsY
import Derived.Test.YtlimlmjljjmcpaaGreatDoorTmY
import Derived.Test.YtlimlmjljjmcpaaGreatDoorTkCl
import Derived.Deep.DeepCutAuto
import Derived.Deep.CutBlock
set_option maxHeartbeats 16000000
set_option maxRecDepth 100000
namespace Go.Proofs.YtlimlmjljjmcpaaGreatDoor.Px
open Go Go.RowKit Go.Proofs.YtlimlmjljjmcpaaGreatDoor.Ps
set_option linter.unusedVariables false
set_option linter.unusedSimpArgs false
theorem b6g(L:List Col){l:List X}{k:Nat}(h:k<l.length):(l.take (k+1)).map (fun x=>toC (nmX L x))=(l.take k).map (fun x=>toC (nmX L x))++[toC (nmX L l[k])]:=by
 rw[List.take_succ_eq_append_getElem h,List.map_append]
 rfl
def b9W(w:World)(tn:S)(L:List Col)(K:List Int)(Fs:List Fkey)(Xs:List X)(e:Ending)(w':World):Prop:=
 (∃b1 q1 b2 q2 b3 q3 b4 q4,e=.returned (.agg (stC (tbC tn b1 L.length q1 b2 K.length q2 b3 Fs.length q3) (.slice b4 Xs.length q4)).toArray) /\
  CL w' L (.slice b1 L.length q1)/\IL w' K (.slice b2 K.length q2)/\FL w' Fs (.slice b3 Fs.length q3)/\XL w' Xs (.slice b4 Xs.length q4))/\Below w.heap.size w w'
theorem b4z(L:List Col)(K:List Int)(Fs:List Fkey)(Cs:List X)(tn:S)(a a2 a3 a4:Option Addr)(m m2 m3 m4:Nat)(w:World)(hL:L.length<=1000000)(hF:Fs.length<=1000000)(hC:Cs.length<=1000000)(hX:∀x∈Cs,nodes x<=1000000/\a2n L.length x)(h1:CL w L (.slice a L.length m))(h2:IL w K (.slice a2 K.length m2))(h3:FL w Fs (.slice a3 Fs.length m3))(h4:XL w Cs (.slice a4 Cs.length m4)):Calls Tryz.prog 58 #[.agg #[.string ⟨tn.toArray⟩,.slice a L.length m,.slice a2 K.length m2,.slice a3 Fs.length m3,.slice a4 Cs.length m4]] w (b9W w tn L K Fs (Cs.map (nmX L))):=by
 obtain⟨ix,hix,hx0,hx1,hx2⟩:=info_parts a2e
 have HCL0:=h_ fun(w':World) (hw':Below w.heap.size w w')=>b4t L K Fs Cs tn a a2 a3 a4 m m2 m3 m4 w' hF hC (fun x hx=>(hX x hx).1) (h1.kept hw' (Nat.le_refl _)) (h2.kept hw' (Nat.le_refl _)) (h3.kept hw' (Nat.le_refl _)) (h4.kept hw' (Nat.le_refl _))
 have H1:=h_ h1
 have H4:=h_ h4
 have HXN:=h_ hX
 have HCN:=h_ hC
 have HLL0:=h_ hL
 clear h1 h2 h3 h4 hX hF hC hL
 go_enter Tryz.func58,Tryz.ntmps58
 go_upto_region 1 with(fail)
 refine nB fun w1 hB hX hw1 hsz1=>?_
 have HX:Hid (∃zl:List Value,zl.length=60/\Blk w1 (w.heap.size+1) zl 63):=h_ ⟨_,rfl,hX⟩
 have HSZ:=h_ hsz1
 have HBx:=h_ hB
 have HW1:=h_ hw1
 obtain⟨p0,p1,p2,p3,p4⟩:=hB.c5
 have lp:=hB.lt
 clear hX hsz1 hB hw1
 go_cut [3] (fun v wx=>∃g b1 q1 b2 q2 b3 q3 b4 n4 q4,v=.pointer (some ⟨g,0,none⟩)/\Blk wx g (stC [.string ⟨tn.toArray⟩,.slice b1 L.length q1,.slice b2 K.length q2,.slice b3 Fs.length q3,.slice b4 n4 q4] (.slice none 0 0)) 63/\(∀w':World,(∀b,w1.heap.size<=b->b<wx.heap.size->b ≠ g->w'.heap[b]? = wx.heap[b]?)->CL w' L (.slice b1 L.length q1)/\IL w' K (.slice b2 K.length q2)/\FL w' Fs (.slice b3 Fs.length q3))/\Below w1.heap.size w1 wx/\w1.heap.size<=g)
 case first=>
  go_wp2_with fail
  refine(HCL0.out w1 HW1.out).mono ?_
  rintro e w2 ⟨⟨b1,q1,b2,q2,b3,q3,b4,n4,q4,rfl,hfr⟩,hw2⟩
  have HFR:=h_ hfr
  have HW2:=h_ hw2
  clear hw2 hfr p0 p1 p2 p3 p4
  go_wp2_with (refine a2y rfl 63 (.tmp 3) (.tmp 7) rfl w2.heap.size (stC [.string ⟨tn.toArray⟩,.slice b1 L.length q1,.slice b2 K.length q2,.slice b3 Fs.length q3,.slice b4 n4 q4] (.slice none 0 0)) rfl rfl 63 _ (Blk.new w2 _ _) (by kernel_rfl) rfl (a8k _ _ (fun u hu=>List.all_eq_true.1 (show(List.all [.string ⟨tn.toArray⟩,.slice b1 L.length q1,.slice b2 K.length q2,.slice b3 Fs.length q3,.slice b4 n4 q4] fun u=>u.oneCell')=true from rfl) u hu) rfl) ?_)
  intro w3 hB3 hg3 hz3
  have hb3:Below w1.heap.size w1 w3:=(HW2.out.alloc HW2.out.size _).grown hg3 (Nat.le_trans HW2.out.size (by simp)) (fun k e=>by injection e with e;have:=HW2.out.size;omega)
  have HFin:Hid (∀w':World,(∀b,w1.heap.size<=b->b<w3.heap.size->b ≠ w2.heap.size->w'.heap[b]? = w3.heap[b]?)->CL w' L (.slice b1 L.length q1)/\IL w' K (.slice b2 K.length q2)/\FL w' Fs (.slice b3 Fs.length q3)):=h_ fun w' hw'=>HFR.out w' fun b k1 k2=>by
   have hz:w3.heap.size=w2.heap.size+1:=hz3
   refine(hw' b k1 (by omega) (by omega)).trans ((hg3.block b (by rw[sA];omega) (by intro e;injection e with e;omega)).trans ((d_ w2 _).block b k2))
  have HB3:=h_ hB3
  have HS3:=h_ hb3
  clear hB3 hg3 hz3 hb3
  go_wp2_with fail
  go_meet
  exact⟨_,_,_,_,_,_,_,_,_,_,rfl,HB3.out,HFin.out,HS3.out,HW2.out.size⟩
 case rest=>
  obtain⟨g,b1,q1,b2,q2,b3,q3,b4,n4,q4,rfl,hT,hfr,hbel,hlo⟩:=hcut
  have HT:=h_ hT
  have t42:=hT.cell 42 (u:=.slice b4 n4 q4) rfl
  have f42:=hT.free 42
  have lg:=hT.lt
  have HFR:=h_ hfr
  have HBE:=h_ hbel
  have HLO:=h_ hlo
  clear hT hfr hbel hlo p0 p1 p2 p3 p4 lp
  go_upto_region 3 with(fail)
  refine a0p (K:=Code.wp _ _ _ _) HT.out fun w3 hL3 hw3 hs3 ho3=>?_
  have HST:Hid (Cl 63 w1.heap.size w3.heap.size w1 w3 g (fun v=>stC (tbC tn b1 L.length q1 b2 K.length q2 b3 Fs.length q3) v) 26 7 (.slice none 0 0) [] (fun w'=>CL w' L (.slice b1 L.length q1)/\IL w' K (.slice b2 K.length q2)/\FL w' Fs (.slice b3 Fs.length q3))):=h_ (Cl.start hL3 (fun w' hw'=>HFR.out w' fun b k1 k2 k3=>(hw' b k1 (by omega) k3).trans (ho3 b k3)) (HBE.out.trans (hw3.mono HLO.out)) HLO.out rfl)
  clear hL3 hw3 hs3 ho3 t42 f42 lg HFR HBE HT
  go_upto_region 4 with(fail)
  go_loopw [4] (fun v wl=>∃(i:Nat) (v4:Value),i<=Cs.length/\v=.int .i64 (i:Int)/\Cl 63 w1.heap.size w3.heap.size w1 wl g (fun v=>stC (tbC tn b1 L.length q1 b2 K.length q2 b3 Fs.length q3) v) 26 7 v4 ((Cs.take i).map fun x=>toC (nmX L x)) (fun w'=>CL w' L (.slice b1 L.length q1)/\IL w' K (.slice b2 K.length q2)/\FL w' Fs (.slice b3 Fs.length q3))) (fun c _=>Cs.length - (intOf c).toNat)
  case atStart=>exact⟨0,_,Nat.zero_le _,rfl,HST.out⟩
  case round=>
   obtain⟨i,v4,hi,rfl,hcl⟩:=hrel
   have HCL:=h_ hcl
   have HGB:Hid (w.heap.size+1+1=w1.heap.size):=h_ HSZ.out.symm
   have HWl:=h_ (HW1.out.trans (hcl.bel.mono HW1.out.size))
   have HZl:Hid (w3.heap.size<=wr.heap.size):=h_ hcl.hB
   have HBxl:=h_ (HBx.out.below hcl.bel)
   obtain⟨p0,p1,p2,p3,p4⟩:=HBxl.out.c5
   have lp:w.heap.size<wr.heap.size:=HBxl.out.lt
   have g7:=hcl.blk.cell 43 (u:=v4) rfl
   have lg:g<wr.heap.size:=hcl.blk.lt
   have HXl:Hid (∃zl:List Value,zl.length=60/\Blk wr (w.heap.size+1) zl 63):=h_ (by obtain⟨zl,h1,h2⟩:=HX.out;exact⟨zl,h1,h2.below hcl.bel⟩)
   clear hcl
   by_cases hlt:i<Cs.length
   ·obtain⟨b,q,us,eq,hec,hkx,hrx⟩:=H4.out.ec hlt
    subst eq
    have hnx:=HXN.out _ (List.getElem_mem hkx)
    have HIK:=h_ fun(w':World) (hw':Below wr.heap.size wr w')=>a7N L tn a a2 a3 (some ⟨b,q,none⟩) m K.length m2 Fs.length m3 Cs.length m4 HLL0.out 1000000 Cs[i] us w' hnx.1 (Nat.le_refl _) hnx.2 (H1.out.kept (HWl.out.trans (hw'.mono HWl.out.size)) (Nat.le_refl _)) (hrx.kept (HWl.out.trans (hw'.mono HWl.out.size)) (Nat.le_refl _))
    have HT:=h_ (b6g L hkx)
    have HLL:Hid (((Cs.take i).map fun x=>toC (nmX L x)).length+1<=1000000):=h_ (by rw[List.length_map,List.length_take];have:=HCN.out;omega)
    generalize hM1:((Cs.take (i+1)).map fun x=>toC (nmX L x))=M1 at HT
    have HM1:=h_ hM1
    clear hM1 hnx
    generalize((Cs.take i).map fun x=>toC (nmX L x))=M at HT HLL HCL
    generalize nmX L Cs[i]=y at HT HIK
    generalize Cs[i]=xk at hrx HIK
    obtain⟨eop,eint,evk,evi,evs,enm,el⟩:=xk
    obtain⟨ea,em,rfl,_⟩:=hrx.lits
    obtain⟨yop,yint,yvk,yvi,yvs,ynm,yl⟩:=y
    have HIQ:Hid (∀(w':World),Below wr.heap.size wr w'->Calls Tryz.prog 138 #[.agg #[.int .i64 eop,.int .i64 eint,.int .i64 evk,.int .i64 evi,.string ⟨evs.toArray⟩,.string ⟨enm.toArray⟩,.slice ea el.length em],.agg #[.string ⟨tn.toArray⟩,.slice a L.length m,.slice a2 K.length m2,.slice a3 Fs.length m3,.slice (some ⟨b,q,none⟩) Cs.length m4]] w' (fun e w''=>∃ya ym,e=.returned (.agg #[.int .i64 yop,.int .i64 yint,.int .i64 yvk,.int .i64 yvi,.string ⟨yvs.toArray⟩,.string ⟨ynm.toArray⟩,.slice ya yl.length ym])/\XF w'.heap.size w''.heap.size w'' (.mk yop yint yvk yvi yvs ynm yl) [.int .i64 yop,.int .i64 yint,.int .i64 yvk,.int .i64 yvi,.string ⟨yvs.toArray⟩,.string ⟨ynm.toArray⟩,.slice ya yl.length ym]/\Below w'.heap.size w' w'')):=h_ fun w' hw'=>(HIK.out w' hw').mono fun e w'' hp=>by
     obtain⟨⟨ya,ym,h1,h2⟩,h3⟩:=hp
     exact⟨ya,ym,h1,h2,h3⟩
    obtain⟨t0,t1,t2,t3,t4,t5,t6⟩:=hec.c7 HWl.out
    have hcn:=HCN.out
    have d2:decide ((i:Int)<(Cs.length:Int))=true:=decide_eq_true (by omega)
    have k0:(0:Int)<=(i:Int):=by omega
    have k1:(i:Int)<(Cs.length:Int):=by omega
    have lb:b<wr.heap.size:=Nat.lt_of_lt_of_le hec.1 HWl.out.size
    clear hec hrx HIK
    go_upto_block 1 with(fail)
    go_cut [] (fun wx=>∃v9,Cl 63 w1.heap.size w3.heap.size w1 wx g (fun v=>stC (tbC tn b1 L.length q1 b2 K.length q2 b3 Fs.length q3) v) 26 7 v9 M1 (fun w'=>CL w' L (.slice b1 L.length q1)/\IL w' K (.slice b2 K.length q2)/\FL w' Fs (.slice b3 Fs.length q3)))
    case first=>
     go_upto_region 6 with(fail)
     go_region_law (first|(go_simp;go_at_call 138;refine(HIQ.out _ (Y_ (Below.refl _ _))).mono ?_;rintro e' w8 ⟨ya,ym,rfl,hxf,hw8⟩;have HW8:Hid (Below wr.heap.size wr w8):=h_ (N_ hw8);have HXF:Hid (XF wr.heap.size w8.heap.size w8 (.mk yop yint yvk yvi yvs ynm yl) [.int .i64 yop,.int .i64 yint,.int .i64 yvk,.int .i64 yvi,.string ⟨yvs.toArray⟩,.string ⟨ynm.toArray⟩,.slice ya yl.length ym]):=h_ hxf;have HCL8:=h_ (HCL.out.below HW8.out);have y80:=HCL8.out.blk.cell 43 (u:=v4) rfl;have l8:g<w8.heap.size:=HCL8.out.blk.lt;obtain⟨css,hc1,hc2,hc3,hc4⟩:=HCL8.out.own.row;have HCS:=h_ hc4;have HSN:Hid (w3.heap.size<=w8.heap.size):=h_ (Nat.le_trans HZl.out HW8.out.size);clear hw8 hxf hc4)|(refine a0s rfl (.tmp 18) (.tmp 26) 24 rfl w3.heap.size 26 ix _ 7 88 Tryz.underlying24 hix hx0 hx1 hx2 rfl (by omega) v4 M.length _ rfl (a0r hc3 (d_ w8 _)) ⟨w8.heap.size,0,none⟩ 1 1 [.int .i64 yop,.int .i64 yint,.int .i64 yvk,.int .i64 yvi,.string ⟨yvs.toArray⟩,.string ⟨ynm.toArray⟩,.slice ya yl.length ym] rfl rfl (fun j u hj=>by rw[Addr.add_lit];exact(Blk.new w8 [.int .i64 yop,.int .i64 yint,.int .i64 yvk,.int .i64 yvi,.string ⟨yvs.toArray⟩,.string ⟨ynm.toArray⟩,.slice ya yl.length ym] 26).cell _ (by simpa using hj)) (fun u hu=>by simp at hu;rcases hu with rfl|rfl|rfl|rfl|rfl|rfl|rfl<;>rfl) (by have:=HLL.out;unfold maxLen;omega) (by have:=HLL.out;omega) (Nat.le_trans HSN.out (by simp)) ?_;intro v9 w9 hrow hg9 hat9;have HN:=h_ (Cl.push (j:=43) HCL8.out hc1 hc2 HCS.out (d_ w8 _) rfl (show FrB wr.heap.size w8.heap.size _ (fun w'=>Rp Tryz.prog w' 26 [.int .i64 yop,.int .i64 yint,.int .i64 yvk,.int .i64 yvi,.string ⟨yvs.toArray⟩,.string ⟨ynm.toArray⟩,.slice ya yl.length ym] (toC (.mk yop yint yvk yvi yvs ynm yl))) from fun w2 hw2=>HXF.out w2 fun b b1 b2=>(hw2 b b1 b2).trans ((d_ w8 _).block b b2)) HZl.out (by simp) (fun q e=>(HCL.out.own.lt q e).2) hrow hg9 (by simpa using hat9) rfl);obtain⟨a10,c10,e10⟩:=HN.out.2.own.form;rw[List.length_append,List.length_singleton] at e10;subst e10;have y91:=HN.out.1.cell 43 (u:=v4) rfl;have z91:=HN.out.1.free 43;clear hrow hg9 hat9 hc1 hc2 hc3))
     all_goals
      have HF:=h_ HN.out.2
      clear HN y80
      go_wp2_with fail
      go_meet
      exact⟨_,by rw[HT.out];exact HF.out⟩
    case rest=>
     obtain⟨v9,hcl9⟩:=hcut
     have HF:=h_ hcl9
     clear hcl9 t0 t1 t2 t3 t4 t5 t6 HIQ
     go_wp2_with fail
     go_roundw
     case rel=>exact⟨i+1,_,by omega,by go_num,by rw[HM1.out];exact HF.out⟩
     case measure=>simp[intOf];omega
   ·obtain rfl:i=Cs.length:=by omega
    rw[List.take_length] at HCL
    have hcn:=HCN.out
    have d2:decide ((Cs.length:Int)<(Cs.length:Int))=false:=decide_eq_false (by omega)
    obtain⟨⟨A5,c5,e5⟩,hdn⟩:=HCL.out.done Tryz.underlying24 (by kernel_rfl) (by rw[List.length_map,show Tryz.prog.bytesOf 26=88 by kernel_rfl];unfold reachBytes;omega)
    have HDN:=h_ hdn
    rw[List.length_map] at e5
    subst e5
    obtain⟨zl,hzl,hzb⟩:=HXl.out
    have HZB:=h_ hzb
    have HZL:=h_ hzl
    have HBG:=h_ HCL.out.blk
    clear hdn hzl hzb HXl g7
    go_wp2_with (first|(refine T_ rfl (wpList_load_mid rfl 63 (.tmp 3) rfl g 0 rfl (stC (tbC tn b1 L.length q1 b2 K.length q2 b3 Fs.length q3) (.slice A5 Cs.length c5)) _ HBG.out.all Tryz.underlying63 rfl (by rw[a1s _ _ rfl];kernel_rfl) ?_))|(refine a2y rfl 63 (.tmp 2) (.tmp 29) rfl (w.heap.size+1) (stC (tbC tn b1 L.length q1 b2 K.length q2 b3 Fs.length q3) (.slice A5 Cs.length c5)) rfl rfl 63 zl HZB.out (by rw[a1s _ _ rfl];kernel_rfl) (by rw[HZL.out,a1s _ _ rfl]) (a8k _ _ (fun u hu=>List.all_eq_true.1 (show(List.all (tbC tn b1 L.length q1 b2 K.length q2 b3 Fs.length q3) fun u=>u.oneCell')=true from rfl) u hu) rfl) ?_))
    intro w6 hB6 hg6 hz6
    go_wp2_with fail
    refine bodyPost_ret (results_cell_row Tryz.results58 _ _ (w.heap.size+1) _ _ _ _ rfl hB6 Tryz.underlying63 rfl (by rw[List.size_toArray,a1s _ _ rfl];kernel_rfl)) rfl ?_
    have hgb:=HGB.out
    have hh:=HDN.out w6 fun b c1 c2 c3=>hg6.block b c2 (by intro e;injection e with e;omega)
    refine⟨⟨b1,q1,b2,q2,b3,q3,A5,c5,by rw[List.length_map],hh.1.1,hh.1.2.1,hh.1.2.2,?_⟩,HWl.out.grown hg6 (by have:=HWl.out.size;omega) (fun q e=>by injection e with e;omega)⟩
    have h5:=hh.2
    rw[List.length_map]
    unfold XL
    rw[a0l,List.map_map]
    exact h5
end Go.Proofs.YtlimlmjljjmcpaaGreatDoor.Px
