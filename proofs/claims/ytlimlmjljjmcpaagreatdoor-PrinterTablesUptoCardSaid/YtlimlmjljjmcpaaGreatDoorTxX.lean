import Derived.Test.YtlimlmjljjmcpaaGreatDoorTsX
import Derived.Test.YtlimlmjljjmcpaaGreatDoorPxB
import Derived.Test.YtlimlmjljjmcpaaGreatDoorPxD
import Derived.Test.YtlimlmjljjmcpaaGreatDoorGrA
set_option maxHeartbeats 16000000
set_option maxRecDepth 100000
namespace Go.Proofs.YtlimlmjljjmcpaaGreatDoor.Px
open Go Go.RowKit Go.Proofs.YtlimlmjljjmcpaaGreatDoor.Ps
set_option linter.unusedVariables false
set_option linter.unusedSimpArgs false
theorem a9C(a b:S)(w:World)(ha:a ≠ [])(hb:b ≠ [])(hl:a.length+b.length<=1000000000):Calls Tryz.prog 48 #[.slice (some ⟨w.heap.size,0,none⟩) 2 2] (w.alloc (.cells #[.string ⟨a.toArray⟩,.string ⟨b.toArray⟩] 9)) (Ret (w.alloc (.cells #[.string ⟨a.toArray⟩,.string ⟨b.toArray⟩] 9)) (.string ⟨(a++32::b).toArray⟩)):=by
 have hj:Lib.join (jl [a,b]) [32]=a++32::b:=by
  rw[a9K (by simp[ha,hb])]
  simp[Lib.join_cons,Lib.joinTail]
 have:=a3B [a,b] (some ⟨w.heap.size,0,none⟩) 2 (w.alloc (.cells #[.string ⟨a.toArray⟩,.string ⟨b.toArray⟩] 9)) (by simp) (fun j s hs=>?_) (by rw[hj];simp;omega)
 ·rw[hj] at this
  exact this
 ·refine⟨_,_,rfl,by simp,?_⟩
  rcases j with _|_|j
  ·injection hs with hs;subst hs;exact(Blk.new w [S_ a,S_ b] 9).cell 0 rfl
  ·injection hs with hs;subst hs;exact(Blk.new w [S_ a,S_ b] 9).cell 1 rfl
  ·cases hs
theorem a9E(a b c d:S)(w:World)(ha:a ≠ [])(hb:b ≠ [])(hc:c ≠ [])(hd:d ≠ [])(hl:a.length+b.length+c.length+d.length<=1000000000):Calls Tryz.prog 48 #[.slice (some ⟨w.heap.size,0,none⟩) 4 4] (w.alloc (.cells #[.string ⟨a.toArray⟩,.string ⟨b.toArray⟩,.string ⟨c.toArray⟩,.string ⟨d.toArray⟩] 9)) (Ret (w.alloc (.cells #[.string ⟨a.toArray⟩,.string ⟨b.toArray⟩,.string ⟨c.toArray⟩,.string ⟨d.toArray⟩] 9)) (.string ⟨(a++32::(b++32::(c++32::d))).toArray⟩)):=by
 have hj:Lib.join (jl [a,b,c,d]) [32]=a++32::(b++32::(c++32::d)):=by
  rw[a9K (by simp[ha,hb,hc,hd])]
  simp[Lib.join_cons,Lib.joinTail]
 have:=a3B [a,b,c,d] (some ⟨w.heap.size,0,none⟩) 4 (w.alloc (.cells #[.string ⟨a.toArray⟩,.string ⟨b.toArray⟩,.string ⟨c.toArray⟩,.string ⟨d.toArray⟩] 9)) (by simp) (fun j s hs=>?_) (by rw[hj];simp;omega)
 ·rw[hj] at this
  exact this
 ·refine⟨_,_,rfl,by simp,?_⟩
  rcases j with _|_|_|_|j
  ·injection hs with hs;subst hs;exact(Blk.new w [S_ a,S_ b,S_ c,S_ d] 9).cell 0 rfl
  ·injection hs with hs;subst hs;exact(Blk.new w [S_ a,S_ b,S_ c,S_ d] 9).cell 1 rfl
  ·injection hs with hs;subst hs;exact(Blk.new w [S_ a,S_ b,S_ c,S_ d] 9).cell 2 rfl
  ·injection hs with hs;subst hs;exact(Blk.new w [S_ a,S_ b,S_ c,S_ d] 9).cell 3 rfl
  ·cases hs
theorem b3Y(c:Col)(w:World)(h:a1C c):Calls Tryz.prog 193 #[.agg #[.string ⟨c.nm.toArray⟩,.int .i64 c.kind,.bool c.nul]] w (Ret w (.string ⟨(a0w c).toArray⟩)):=by
 have hnm:=a0a h.1
 have hkl:=b0V c.kind
 have hke:=b2I h.2
 have HR:Hid (a0w c=c.nm++[32]++a2g c.kind++(if c.nul then[32,78,85,76,76] else[])):=h_ rfl
 generalize a0w c=R at HR |-
 obtain⟨nm,kind,nul⟩:=c
 dsimp only at HR hnm hkl hke |-
 have HK:=h_ fun(w':World)=>b1k kind w'
 generalize a2g kind=kl at HK HR hkl hke
 have hkn:kl ≠ []:=by intro e;subst e;simp at hke
 clear h hke
 go_enter Tryz.func193,Tryz.ntmps193
 go_upto_region 1 with(fail)
 refine nA fun w1 hB hw1 hz1=>?_
 have HB:=h_ hB
 have HW:=h_ hw1
 clear hB hw1 hz1
 refine Gr.f_ 5 (by kernel_rfl) (by kernel_rfl) (fun w'=>Below w1.heap.size w1 w') ⟨rfl,rfl,rfl,Nat.le_refl _,fun _ _=>rfl⟩ ?_
 simp only[List.take_succ_cons,List.take_zero,List.drop_succ_cons,List.drop_zero]
 iterate 5
  first
  |apply Gr.sn (.string ⟨kl.toArray⟩);focus(go_simp;intro w' hw';go_simp;rw[Gr.b_];exact Ret.fam (HK.out w') hw';done)
  |apply Gr.sn;focus(go_simp;intro w' hw';go_simp;rw[Gr.a_];done)
  |apply Gr.sn;focus(go_simp;intro w' hw';have p0:=(HB.out.below hw').cell 0 rfl;go_simp;rw[Gr.a_];done)
  |apply Gr.sn;focus(go_simp;intro w' hw';have p1:=(HB.out.below hw').cell 1 rfl;go_simp;rw[Gr.a_];done)
  intro K hK;go_simp;refine hK _ ?_;clear hK K
 refine Gr.o_ fun w2 hw2=>?_
 have HW2:=t_ HW hw2
 have HB2:=h_ (HB.out.below hw2)
 clear hw2
 go_wp2_with fail
 refine(a9C nm kl w2 hnm.2 hkn (by omega)).mono ?_
 rintro e w3 ⟨rfl,hw3⟩
 have HW3:=h_ ((HW2.out.trans ((d_ w2 _).mono HW2.out.size)).trans (hw3.mono (Nat.le_trans HW2.out.size (by simp))))
 have HB3:=h_ (((HB2.out.below (d_ w2 _)).below hw3))
 have p2:=HB3.out.cell 2 rfl
 clear hw3
 cases nul with
 |false=>
  go_wp2_with fail
  go_ret
  exact⟨by rw[HR.out];simp,HW3.out⟩
 |true=>
  have hne:nm++32::kl ≠ []:=by simp
  go_wp2_with fail
  refine(a9C (nm++32::kl) [78,85,76,76] w3 hne (by decide) (by simp;omega)).mono ?_
  rintro e w4 ⟨rfl,hw4⟩
  have HW4:=h_ ((HW3.out.trans ((d_ w3 _).mono HW3.out.size)).trans (hw4.mono (Nat.le_trans HW3.out.size (by simp))))
  clear hw4
  go_wp2_with fail
  go_ret
  exact⟨by rw[HR.out];simp,HW4.out⟩
theorem b2T(L:List Col)(i:Int)(bk:Nat)(tn:S)(a a2 a3 a4:Option Addr)(m n2 m2 n3 m3 n4 m4:Nat)(w:World)(hi:exB i L.length=true)(hb:Blk w bk [.string ⟨tn.toArray⟩,.slice a L.length m,.slice a2 n2 m2,.slice a3 n3 m3,.slice a4 n4 m4] 53)(hl:CL w L (.slice a L.length m)):Calls Tryz.prog 265 #[.int .i64 i,.pointer (some ⟨bk,0,none⟩)] w (Ret w (.string ⟨(a1k L i).toArray⟩)):=by
 have hex:=a3P.1 hi
 obtain⟨gl,ol,eq,hx,hc⟩:=hl.at_ (k:=i.toNat) (by omega)
 subst eq
 have HR:Hid (a1k L i=L[i.toNat].nm):=h_ (b1F hx)
 generalize a1k L i=R at HR |-
 have c0:=hc.at0 (Below.refl w.heap.size w) rfl
 have ll:=hc.1
 have p1:=hb.cell 1 rfl
 have lb:=hb.lt
 clear hc hl hi hb
 generalize L[i.toNat].nm=nm at c0 HR
 obtain⟨q0,q1⟩:=hex
 go_enter Tryz.func265,Tryz.ntmps265
 go_wp2_with fail
 go_ret
 exact⟨by rw[HR.out];rfl,Below.refl _ _⟩
theorem map_take{α:Type}(f:α->S){l:List α}{k:Nat}(h:k<l.length):(l.take (k+1)).map f=(l.take k).map f++[f l[k]]:=by
 rw[List.take_succ_eq_append_getElem h,List.map_append]
 rfl
theorem b3B(L:List Col)(a:Option Addr)(m:Nat)(w:World)(hn:L.length<=12)(hC:∀c∈L,a1C c)(hl:CL w L (.slice a L.length m)):Calls Tryz.prog 192 #[.slice a L.length m,.func (.func 193) #[] #[]] w (Ret w (.string ⟨(Lib.join (L.map a0w) [44,32]).toArray⟩)):=by
 obtain⟨i0,hi0,hz0,hz1,hz2⟩:=info_parts a4n
 have HLN:Hid ((Lib.join (L.map a0w) [44,32]).length<=1099511627776):=h_ (by
  have:=a8E (B:=40) (sep:=[44,32]) (M:=L.map a0w) (fun s hs=>by
   obtain⟨c,hc,rfl⟩:=List.mem_map.1 hs
   exact a5Z (hC c hc))
  rw[List.length_map] at this
  have h2:L.length*(40+[44,32].length)<=12*42:=Nat.mul_le_mul_right _ hn
  omega)
 have HL:=h_ hl
 have HCO:=h_ hC
 clear hC
 clear hl
 go_enter Tryz.func192,Tryz.ntmps192
 go_wp2_with fail
 go_loopw [5,10] (fun v i wr=>∃k:Nat,k<=L.length/\i=.int .i64 (k:Int)/\a0z w.heap.size v ((L.take k).map a0w) wr/\Below w.heap.size w wr) (fun _ i _=>L.length - (intOf i).toNat)
 case atStart=>exact⟨0,Nat.zero_le _,rfl,a0z.nil _ _,Below.refl _ _⟩
 case round=>
  obtain⟨k,hk,rfl,ho,hb⟩:=hrel
  have HO:=h_ ho
  have HB:=h_ hb
  by_cases hlt:k<L.length
  ·obtain⟨g,o,eq,hx,hec⟩:=HL.out.at_ hlt
   subst eq
   have HC:=h_ fun(w':World) (hw':Below w.heap.size w w')=>b3Y L[k] w' (HCO.out _ (List.getElem_mem hx))
   have c0_:=hec.at0 hb rfl
   have c1_:=hec.at_ hb (j:=1) rfl
   have c2_:=hec.at_ hb (j:=2) rfl
   have c2:(k:Int)<(L.length:Int):=by omega
   have c3:(0:Int)<=(k:Int):=by omega
   have d1:decide ((k:Int)<(L.length:Int))=true:=decide_eq_true c2
   have gl:g<wr.heap.size:=by have:=hb.size;have:=hec.1;omega
   have HK:=h_ (map_take a0w hx)
   have hlt2:∀g,u5.ownBlock=some g->w.heap.size<=g:=fun g e=>(ho.lt g e).1
   have hkl:((L.take k).map a0w).length<=k:=by rw[List.length_map,List.length_take];omega
   clear hec ho hb
   generalize hM1:(L.take (k+1)).map a0w=M1 at HK
   have HM1:=h_ hM1
   clear hM1
   generalize(L.take k).map a0w=M at HO HK hkl
   generalize a0w L[k]=y at HK HC
   generalize L[k]=cc at c0_ c1_ c2_ HC
   obtain⟨cnm,ckd,cnl⟩:=cc
   dsimp only at c0_ c1_ c2_ HC
   go_wp2_with fail
   refine(HC.out _ (HB.out.trans ((d_ wr _).mono HB.out.size))).mono ?_
   rintro e' w4 ⟨rfl,hw4⟩
   have HB4:=h_ ((HB.out.trans ((d_ wr _).mono HB.out.size)).trans (hw4.mono (by have:=HB.out.size;simp;omega)))
   have HO4:=h_ (a0z.below (a0z.below HO.out (d_ wr _)) hw4)
   clear hw4 HO HB HC
   go_wp2_with (at_builtin;refine wpList_append_own_at _ rfl (.tmp 14) (.tmp 18) 111 rfl w.heap.size 9 i0 _ 1 16 Tryz.underlying111 hi0 hz0 hz1 hz2 rfl (by omega) u5 M.length _ rfl (World.ownsRow.alloc HO4.out _) ⟨w4.heap.size,0,none⟩ 1 1 [.string ⟨y.toArray⟩] rfl rfl (a1d _ _ _) (fun u hu=>by obtain rfl:=List.mem_singleton.1 hu;rfl) (by unfold maxLen;omega) (by omega) (Nat.le_trans HB4.out.size (by simp)) ?_)
   intro v3 w3 hown3 hg3 _ hat3
   have hb3:Below w.heap.size w w3:=(HB4.out.alloc HB4.out.size _).grown hg3 (Nat.le_trans HB4.out.size (by simp)) hlt2
   have HO3:Hid (a0z w.heap.size v3 M1 w3):=h_ (by rw[HK.out];exact a0z.snoc hown3)
   clear hown3 hg3 hat3
   go_wp2_with fail
   go_roundw
   case rel=>exact⟨k+1,by omega,by go_num,by rw[HM1.out];exact HO3.out,hb3⟩
   case measure=>simp[intOf];omega
  ·obtain rfl:k=L.length:=by omega
   rw[List.take_length] at ho
   have hML:(L.map a0w).length=L.length:=List.length_map _
   clear HO
   generalize hMe:L.map a0w=M at ho HLN hML
   have HMe:=h_ hMe
   clear hMe
   obtain⟨a2,c2,rfl,hs⟩:=ho.form
   have HJ:=h_ (Ret.at_ (a3R [44,32] hs ho.cap (by rw[hML];omega) HLN.out) HB.out)
   have d1:decide ((L.length:Int)<(L.length:Int))=false:=decide_eq_false (by omega)
   clear ho hb hs hML
   go_wp2_with fail
   refine HJ.out.mono ?_
   rintro e w' ⟨rfl,hb2⟩
   go_wp2_with fail
   go_ret
   exact⟨by rw[HMe.out];rfl,hb2⟩
theorem b4s(L:List Col)(K:List Int)(bk:Nat)(tn:S)(a a2 a3 a4 ak:Option Addr)(m n2 m2 n3 m3 n4 m4 mk:Nat)(w:World)(hn:K.length<=12)(hC:∀c∈L,a1C c)(hK:∀i∈K,exB i L.length=true)(hb0:Blk w bk [.string ⟨tn.toArray⟩,.slice a L.length m,.slice a2 n2 m2,.slice a3 n3 m3,.slice a4 n4 m4] 53)(h1:CL w L (.slice a L.length m))(hl:IL w K (.slice ak K.length mk)):Calls Tryz.prog 264 #[.slice ak K.length mk,.func (.func 265) #[] #[.pointer (some ⟨bk,0,none⟩)]] w (Ret w (.string ⟨(Lib.join (K.map (a1k L)) [44,32]).toArray⟩)):=by
 obtain⟨i0,hi0,hz0,hz1,hz2⟩:=info_parts a4n
 have HLN:Hid ((Lib.join (K.map (a1k L)) [44,32]).length<=1099511627776):=h_ (by
  have:=a8E (B:=40) (sep:=[44,32]) (M:=K.map (a1k L)) (fun s hs=>by
   obtain⟨c,hc,rfl⟩:=List.mem_map.1 hs
   exact Nat.le_trans (a0a (a8m hC (hK c hc))).1 (by decide))
  rw[List.length_map] at this
  have h2:K.length*(40+[44,32].length)<=12*42:=Nat.mul_le_mul_right _ hn
  omega)
 have HL:=h_ hl
 have HKX:=h_ hK
 have HB0:=h_ hb0
 have H1:=h_ h1
 clear hC hK hb0 h1
 clear hl
 go_enter Tryz.func264,Tryz.ntmps264
 go_wp2_with fail
 go_loopw [5,10] (fun v i wr=>∃k:Nat,k<=K.length/\i=.int .i64 (k:Int)/\a0z w.heap.size v ((K.take k).map (a1k L)) wr/\Below w.heap.size w wr) (fun _ i _=>K.length - (intOf i).toNat)
 case atStart=>exact⟨0,Nat.zero_le _,rfl,a0z.nil _ _,Below.refl _ _⟩
 case round=>
  obtain⟨k,hk,rfl,ho,hb⟩:=hrel
  have HO:=h_ ho
  have HB:=h_ hb
  by_cases hlt:k<K.length
  ·obtain⟨g,o,eq,hx,hec⟩:=HL.out.at_ hlt
   subst eq
   have HC:=h_ fun(w':World) (hw':Below w.heap.size w w')=>b2T L K[k] bk tn a a2 a3 a4 m n2 m2 n3 m3 n4 m4 w' (HKX.out _ (List.getElem_mem hx)) (HB0.out.below hw') (H1.out.kept hw' (Nat.le_refl _))
   have c0_:=hec.at0 hb rfl
   simp only[Nat.mul_one] at c0_
   have c2:(k:Int)<(K.length:Int):=by omega
   have c3:(0:Int)<=(k:Int):=by omega
   have d1:decide ((k:Int)<(K.length:Int))=true:=decide_eq_true c2
   have gl:g<wr.heap.size:=by have:=hb.size;have:=hec.1;omega
   have HK:=h_ (map_take (a1k L) hx)
   have hlt2:∀g,u5.ownBlock=some g->w.heap.size<=g:=fun g e=>(ho.lt g e).1
   have hkl:((K.take k).map (a1k L)).length<=k:=by rw[List.length_map,List.length_take];omega
   clear hec ho hb
   generalize hM1:(K.take (k+1)).map (a1k L)=M1 at HK
   have HM1:=h_ hM1
   clear hM1
   generalize(K.take k).map (a1k L)=M at HO HK hkl
   generalize a1k L K[k]=y at HK HC
   generalize K[k]=kv at c0_ HC
   go_wp2_with fail
   refine(HC.out _ HB.out).mono ?_
   rintro e' w4 ⟨rfl,hw4⟩
   have HB4:=h_ (HB.out.trans (hw4.mono (by have:=HB.out.size;omega)))
   have HO4:=h_ (a0z.below HO.out hw4)
   clear hw4 HO HB HC
   go_wp2_with (at_builtin;refine wpList_append_own_at _ rfl (.tmp 14) (.tmp 18) 111 rfl w.heap.size 9 i0 _ 1 16 Tryz.underlying111 hi0 hz0 hz1 hz2 rfl (by omega) u5 M.length _ rfl (World.ownsRow.alloc HO4.out _) ⟨w4.heap.size,0,none⟩ 1 1 [.string ⟨y.toArray⟩] rfl rfl (a1d _ _ _) (fun u hu=>by obtain rfl:=List.mem_singleton.1 hu;rfl) (by unfold maxLen;omega) (by omega) (Nat.le_trans HB4.out.size (by simp)) ?_)
   intro v3 w3 hown3 hg3 _ hat3
   have hb3:Below w.heap.size w w3:=(HB4.out.alloc HB4.out.size _).grown hg3 (Nat.le_trans HB4.out.size (by simp)) hlt2
   have HO3:Hid (a0z w.heap.size v3 M1 w3):=h_ (by rw[HK.out];exact a0z.snoc hown3)
   clear hown3 hg3 hat3
   go_wp2_with fail
   go_roundw
   case rel=>exact⟨k+1,by omega,by go_num,by rw[HM1.out];exact HO3.out,hb3⟩
   case measure=>simp[intOf];omega
  ·obtain rfl:k=K.length:=by omega
   rw[List.take_length] at ho
   have hML:(K.map (a1k L)).length=K.length:=List.length_map _
   clear HO
   generalize hMe:K.map (a1k L)=M at ho HLN hML
   have HMe:=h_ hMe
   clear hMe
   obtain⟨a2,c2,rfl,hs⟩:=ho.form
   have HJ:=h_ (Ret.at_ (a3R [44,32] hs ho.cap (by rw[hML];omega) HLN.out) HB.out)
   have d1:decide ((K.length:Int)<(K.length:Int))=false:=decide_eq_false (by omega)
   clear ho hb hs hML
   go_wp2_with fail
   refine HJ.out.mono ?_
   rintro e w' ⟨rfl,hb2⟩
   go_wp2_with fail
   go_ret
   exact⟨by rw[HMe.out];rfl,hb2⟩
theorem b5e(L:List Col)(K:List Int)(tn:S)(a a2 a3 a4 ak:Option Addr)(m n2 m2 n3 m3 n4 m4 mk:Nat)(w:World)(hK:Cis L.length K)(hC:∀c∈L,a1C c)(h1:CL w L (.slice a L.length m))(hl:IL w K (.slice ak K.length mk)):Calls Tryz.prog 194 #[.agg #[.string ⟨tn.toArray⟩,.slice a L.length m,.slice a2 n2 m2,.slice a3 n3 m3,.slice a4 n4 m4],.slice ak K.length mk] w (Ret w (.string ⟨(namesT L K).toArray⟩)):=by
 have HR:Hid (namesT L K=[40]++Lib.join (K.map (a1k L)) [44,32]++[41]):=h_ rfl
 have hlen:=(a1u hC hK).2.2
 have HT:=h_ fun(w':World) (hw':Below w.heap.size w w') (hb:Blk w' w.heap.size [.string ⟨tn.toArray⟩,.slice a L.length m,.slice a2 n2 m2,.slice a3 n3 m3,.slice a4 n4 m4] 53)=>b4s L K w.heap.size tn a a2 a3 a4 ak m n2 m2 n3 m3 n4 m4 mk w' hK.2.1 hC hK.2.2 hb (h1.kept hw' (Nat.le_refl _)) (hl.kept hw' (Nat.le_refl _))
 generalize namesT L K=R at HR |-
 have hs:=mkS (Lib.join (K.map (a1k L)) [44,32])
 generalize Lib.join (K.map (a1k L)) [44,32]=J at HR HT hlen hs
 clear hK hC h1 hl
 have y1:¬maxLen<1+J.length:=by unfold maxLen;omega
 have y2:¬maxLen<1+J.length+1:=by unfold maxLen;omega
 go_enter Tryz.func194,Tryz.ntmps194
 go_upto_region 1 with(fail)
 refine nA fun w1 hB hw1 hz1=>?_
 have HB:=h_ hB
 have HW:=h_ hw1
 clear hB hw1 hz1
 go_wp2_with fail
 refine(HT.out w1 HW.out HB.out).mono ?_
 rintro e w2 ⟨rfl,hw2⟩
 have HW2:=t_ HW hw2
 clear hw2
 go_wp2_with fail
 go_ret
 rw[HR.out]
 exact Ret.str (by simp[ByteArray.data_append]) HW2.out
theorem a2i{B:Nat}:∀ {M:List S},(∀s∈M,s.length<=B)->M.flatten.length<=M.length*B
 |[],_=>by simp
 |x::r,h=>by
  have h1:=a2i fun s hs=>h s (List.mem_cons_of_mem _ hs)
  have h2:=h x (by simp)
  rw[List.flatten_cons,List.length_append,List.length_cons,Nat.succ_mul]
  omega
theorem a3o{α:Type}(f:α->S){l:List α}{k:Nat}(h:k<l.length):((l.take (k+1)).map f).flatten=((l.take k).map f).flatten++f l[k]:=by
 rw[map_take f h,List.flatten_append]
 simp
theorem a8I{L:List Col}{F:Fkey}(hC:∀c∈L,a1C c)(hn:L.length<=12)(h:a2h L.length F.cols F.tb):(a0V L F).length<=500:=by
 have h1:=(a1u hC (a6u hn h)).1
 have h2:=(a0a h.1).1
 unfold a0V
 simp only[List.length_append,List.length_cons,List.length_nil]
 omega
theorem a8B{x:X}(hn:nodes x<=2000)(hp:pOk x=true):(a0F x).length<=1200100:=by
 have h1:=(A_ _ x (Nat.le_refl _) hp).2
 unfold a0F
 simp only[List.length_append,List.length_cons,List.length_nil]
 omega
theorem a7s{tn:S}{L:List Col}{K:List Int}(hN:nameB tn=true)(hC:∀c∈L,a1C c)(hn:L.length<=12)(hK:Cis L.length K):(a6e tn L K).length<=2000/\(Lib.join (L.map a0w) [44,32]).length<=600:=by
 have h1:=(a1u hC hK).1
 have h2:=(a0a hN).1
 have h3:=a8E (B:=40) (sep:=[44,32]) (M:=L.map a0w) (fun s hs=>by
  obtain⟨c,hc,rfl⟩:=List.mem_map.1 hs
  exact a5Z (hC c hc))
 rw[List.length_map] at h3
 have h4:L.length*(40+[44,32].length)<=12*42:=Nat.mul_le_mul_right _ hn
 unfold a6e
 simp only[List.length_append,List.length_cons,List.length_nil] at h3 h4 |-
 constructor<;>omega
theorem b4m(L:List Col)(K:List Int)(Fs:List Fkey)(Xs:List X)(tn:S)(a a2 a3 ax:Option Addr)(m m2 m3 mx:Nat)(w:World)(hE:Env w)(hN:nameB tn=true)(hC:a0f L)(hK:a2F L K)(hF:a0T L.length Fs)(hX:∀x∈Xs,nodes x<=2000/\pOk x=true)(hXl:Xs.length<=4)(h1:CL w L (.slice a L.length m))(h2:IL w K (.slice a2 K.length m2))(h3:FL w Fs (.slice a3 Fs.length m3))(h4:XL w Xs (.slice ax Xs.length mx)):Calls Tryz.prog 117 #[.agg #[.string ⟨tn.toArray⟩,.slice a L.length m,.slice a2 K.length m2,.slice a3 Fs.length m3,.slice none 0 0],.slice ax Xs.length mx] w (Ret w (.string ⟨(a0n tn L K Fs Xs).toArray⟩)):=by
 have H1:=h_ h1
 have H2:=h_ h2
 have H3:=h_ h3
 have H4:=h_ h4
 have HCO:=h_ hC
 have HLN:=hC.1
 have hFN:=hF.1
 have HKC:=h_ (a5J hC.1.2 hK)
 have HFO:=h_ hF
 have HXX:=h_ hX
 have hnt:=a0a hN
 have hhd:=a7s hN hC.2.1 hC.1.2 HKC.out
 have hnk:=a1u hC.2.1 HKC.out
 have HFT:Hid (∀j,(((Fs.take j).map (a0V L)).flatten).length<=2000):=h_ fun j=>by
  have:=a2i (B:=500) (M:=(Fs.take j).map (a0V L)) fun s hs=>by
   obtain⟨F,hF2,rfl⟩:=List.mem_map.1 hs
   exact a8I hC.2.1 hC.1.2 (hF.2 F (List.mem_of_mem_take hF2))
  rw[List.length_map] at this
  have h5:(Fs.take j).length*500<=4*500:=Nat.mul_le_mul_right _ (by rw[List.length_take];omega)
  omega
 have HXT:Hid (∀j,(((Xs.take j).map a0F).flatten).length<=5000000):=h_ fun j=>by
  have:=a2i (B:=1200100) (M:=(Xs.take j).map a0F) fun s hs=>by
   obtain⟨x,hx,rfl⟩:=List.mem_map.1 hs
   have:=hX x (List.mem_of_mem_take hx)
   exact a8B this.1 this.2
  rw[List.length_map] at this
  have h5:(Xs.take j).length*1200100<=4*1200100:=Nat.mul_le_mul_right _ (by rw[List.length_take];omega)
  omega
 have HCR:Hid (a0n tn L K Fs Xs=a6e tn L K++(Fs.map (a0V L)).flatten++(Xs.map a0F).flatten++[41]):=h_ rfl
 generalize a0n tn L K Fs Xs=R at HCR |-
 have HHD:Hid (a6e tn L K=[67,82,69,65,84,69,32,84,65,66,76,69,32]++tn++[32,40]++Lib.join (L.map a0w) [44,32]++[44,32,80,82,73,77,65,82,89,32,75,69,89,32]++namesT L K):=h_ rfl
 have HNK:Hid (∀(w':World) (J:List Int) (aj:Option Addr) (mj:Nat),Cis L.length J->IL w J (.slice aj J.length mj)->Below w.heap.size w w'->Calls Tryz.prog 194 #[.agg #[.string ⟨tn.toArray⟩,.slice a L.length m,.slice a2 K.length m2,.slice a3 Fs.length m3,.slice none 0 0],.slice aj J.length mj] w' (Ret w' (.string ⟨(namesT L J).toArray⟩))):=h_ fun w' J aj mj hJ hj hw'=>b5e L J tn a a2 a3 none aj m K.length m2 Fs.length m3 0 0 mj w' hJ HCO.out.2.1 (H1.out.kept hw' (Nat.le_refl _)) (hj.kept hw' (Nat.le_refl _))
 have HNT:=h_ fun(w':World) (hw':Below w.heap.size w w')=>HNK.out w' K a2 m2 HKC.out h2 hw'
 have HTX:=h_ fun(w':World) (hw':Below w.heap.size w w')=>b3B L a m w' HLN.2 HCO.out.2.1 (h1.kept hw' (Nat.le_refl _))
 have HEX:Hid (∀(w':World) (x:X) (cs:List Value),x∈Xs->XR w x cs->Below w.heap.size w w'->Calls Tryz.prog 27 #[.agg cs.toArray] w' (Ret w' (.string ⟨(txt x).toArray⟩))):=h_ fun w' x cs hx hr hw'=>a4a 1000000 x cs w' (Nat.le_trans (HXX.out x hx).1 (by decide)) (Nat.le_refl _) (HXX.out x hx).2 (hE.below hw') (hr.kept hw' (Nat.le_refl _))
 clear h1 h2 h3 h4 hC hK hF hX hE hN
 generalize a6e tn L K=HD at HCR HHD hhd
 generalize namesT L K=NT at HNT HHD hnk
 have hjs:=mkS (Lib.join (L.map a0w) [44,32])
 generalize Lib.join (L.map a0w) [44,32]=JT at HTX HHD hhd hjs
 obtain⟨P1,hP1⟩:∃P,P=40::JT:=⟨_,rfl⟩
 obtain⟨P2,hP2⟩:∃P,P=P1++[44,32,80,82,73,77,65,82,89,32,75,69,89]:=⟨_,rfl⟩
 have hl1:P1.length=1+JT.length:=by rw[hP1,List.length_cons];omega
 have hl2:P2.length=P1.length+13:=by rw[hP2,List.length_append];rfl
 have hs1:=mkS P1
 have HP1:=h_ hP1
 have HP2:=h_ hP2
 have hp2:P2 ≠ []:=by intro e;rw[e] at hl2;simp at hl2
 have y1:¬9223372036854775807<1+JT.length:=by omega
 have y2:¬9223372036854775807<P1.length+13:=by omega
 have y2':¬9223372036854775807<1+JT.length+13:=by omega
 clear hP1 hP2
 go_enter Tryz.func117,Tryz.ntmps117
 go_upto_region 1 with(fail)
 refine nA fun w1 hB hw1 hz1=>?_
 have HB:=h_ hB
 have HW:=h_ hw1
 clear hB hw1 hz1
 refine Gr.f_ 11 (by kernel_rfl) (by kernel_rfl) (fun w'=>Below w1.heap.size w1 w') ⟨rfl,rfl,rfl,Nat.le_refl _,fun _ _=>rfl⟩ ?_
 simp only[List.take_succ_cons,List.take_zero,List.drop_succ_cons,List.drop_zero]
 refine Gr.sn _ (by go_simp;intro w' hw';go_simp;rw[Gr.a_]) fun K hK=>?_;go_simp;refine hK _ ?_;clear hK K
 refine Gr.sn _ (by go_simp;intro w' hw';have t0:=(HB.out.below hw').cell 0 rfl;go_simp;rw[Gr.a_]) fun K hK=>?_;go_simp;refine hK _ ?_;clear hK K
 refine Gr.sn _ (by go_simp;intro w' hw';go_simp;rw[Gr.a_]) fun K hK=>?_;go_simp;refine hK _ ?_;clear hK K
 refine Gr.sn _ (by go_simp;intro w' hw';have t1:=(HB.out.below hw').cell 1 rfl;go_simp;rw[Gr.a_]) fun K hK=>?_;go_simp;refine hK _ ?_;clear hK K
 refine Gr.sn (.string ⟨JT.toArray⟩) (by go_simp;intro w' hw';go_simp;rw[Gr.b_];exact Ret.fam (HTX.out w' (HW.out.trans (hw'.mono HW.out.size))) hw') fun K hK=>?_;go_simp;refine hK _ ?_;clear hK K
 refine Gr.sn (.string ⟨P1.toArray⟩) (by go_simp;intro w' hw';go_simp;rw[Gr.a_];exact congrArg Value.string (str_eq (by rw[HP1.out];simp[ByteArray.data_append]))) fun K hK=>?_;go_simp;refine hK _ ?_;clear hK K
 refine Gr.sn (.string ⟨P2.toArray⟩) (by go_simp;intro w' hw';go_simp;rw[Gr.a_];exact congrArg Value.string (str_eq (by rw[HP2.out];simp[ByteArray.data_append]))) fun K hK=>?_;go_simp;refine hK _ ?_;clear hK K
 refine Gr.sn _ (by go_simp;intro w' hw';have t0:=(HB.out.below hw').cell 0 rfl;have t1:=(HB.out.below hw').cell 1 rfl;have t2:=(HB.out.below hw').cell 2 rfl;have t3:=(HB.out.below hw').cell 3 rfl;have t4:=(HB.out.below hw').cell 4 rfl;go_simp;rw[Gr.a_]) fun K hK=>?_;go_simp;refine hK _ ?_;clear hK K
 refine Gr.sn _ (by go_simp;intro w' hw';go_simp;rw[Gr.a_]) fun K hK=>?_;go_simp;refine hK _ ?_;clear hK K
 refine Gr.sn _ (by go_simp;intro w' hw';have t2:=(HB.out.below hw').cell 2 rfl;go_simp;rw[Gr.a_]) fun K hK=>?_;go_simp;refine hK _ ?_;clear hK K
 refine Gr.sn (.string ⟨NT.toArray⟩) (by go_simp;intro w' hw';go_simp;rw[Gr.b_];exact Ret.fam (HNT.out w' (HW.out.trans (hw'.mono HW.out.size))) hw') fun K hK=>?_;go_simp;refine hK _ ?_;clear hK K
 refine Gr.o_ fun w2 hw2=>?_
 have HB2:=h_ (HB.out.below hw2)
 have HW2:=t_ HW hw2
 clear hw2 HNT HTX
 go_wp2_with fail
 refine(a9E [67,82,69,65,84,69,32,84,65,66,76,69] tn P2 NT w2 (by decide) hnt.2 hp2 hnk.2.1 (by simp;omega)).mono ?_
 rintro e w3 ⟨rfl,hw3⟩
 have HHE:Hid ([67,82,69,65,84,69,32,84,65,66,76,69]++32::(tn++32::(P2++32::NT))=HD):=h_ (by rw[HHD.out,HP2.out,HP1.out];simp)
 generalize[67,82,69,65,84,69,32,84,65,66,76,69]++32::(tn++32::(P2++32::NT))=HD2 at HHE |-
 obtain rfl:=HHE.out
 have HW3:=h_ ((HW2.out.trans ((d_ w2 _).mono HW2.out.size)).trans (hw3.mono (Nat.le_trans HW2.out.size (by simp))))
 have HB3:=h_ ((HB2.out.below (d_ w2 _)).below hw3)
 have p3:=HB3.out.cell 3 rfl
 clear hw3 HHE HP1 HP2 hl1 hl2 hs1 y1 y2 y2' hjs
 go_upto_region 3 with(fail)
 clear p3
 go_loopw [5,26] (fun s i wr=>∃j:Nat,j<=Fs.length/\s=.string ⟨(HD2++((Fs.take j).map (a0V L)).flatten).toArray⟩/\i=.int .i64 (j:Int)/\Below w3.heap.size w3 wr) (fun _ i _=>Fs.length - (intOf i).toNat)
 case atStart=>exact⟨0,Nat.zero_le _,by simp,rfl,Below.refl _ _⟩
 case round=>
  obtain⟨j,hj,rfl,rfl,hb⟩:=hrel
  have HBB:=h_ hb
  have HWr:=t_ HW3 hb
  have HBr:=h_ (HB3.out.below hb)
  clear hb
  by_cases hlt2:j<Fs.length
  ·have k1:(j:Int)<(Fs.length:Int):=by omega
   have k0:(0:Int)<=(j:Int):=by omega
   obtain⟨g,o,eq,hx,fb,fc,hec,hil⟩:=H3.out.at_ hlt2
   subst eq
   have hfo:=HFO.out.2 _ (List.getElem_mem hx)
   have hci:=a6u HLN.2 hfo
   have hnf:=a1u HCO.out.2.1 hci
   have hft:=a0a hfo.1
   have HN2:=h_ fun(w':World) (hw':Below wr.heap.size wr w')=>HNK.out w' Fs[j].cols fb fc hci hil (HWr.out.trans (hw'.mono HWr.out.size))
   have HT:=h_ (a3o (a0V L) hx)
   have HFT2:Hid (a0V L Fs[j]=[44,32,70,79,82,69,73,71,78,32,75,69,89,32]++namesT L Fs[j].cols++[32,82,69,70,69,82,69,78,67,69,83,32]++Fs[j].tb):=h_ rfl
   have hb1:=HFT.out j
   generalize hM1:((Fs.take (j+1)).map (a0V L)).flatten=M1 at HT
   have HM1:=h_ hM1
   clear hfo hil hci hM1
   generalize a0V L Fs[j]=ft at HT HFT2
   generalize namesT L Fs[j].cols=N1 at HN2 hnf HFT2
   generalize Fs[j].tb=ftb at hec hft HFT2
   generalize Fs[j].cols=fcols at hec HN2
   have hlc:(HD2++((Fs.take j).map (a0V L)).flatten).length<=4000:=by rw[List.length_append];omega
   have HAC:Hid (HD2++((Fs.take j).map (a0V L)).flatten++ft=HD2++M1):=h_ (by rw[HT.out,List.append_assoc])
   have hsa:=mkS (HD2++((Fs.take j).map (a0V L)).flatten)
   generalize HD2++((Fs.take j).map (a0V L)).flatten=AC at hlc HAC hsa |-
   have c0:=hec.at0 HWr.out rfl
   have c1:=hec.at_ HWr.out (j:=1) rfl
   have lg:g<wr.heap.size:=Nat.lt_of_lt_of_le hec.1 HWr.out.size
   clear hec HT
   go_upto_region 5 with(fail)
   refine nA fun w7 hV hw7 hz7=>?_
   have HV:=h_ hV
   have HW7:=h_ hw7
   have HB7:=h_ (HBr.out.below hw7)
   clear hV hw7 hz7 c0 c1
   refine Gr.a6p 6 (by kernel_rfl) (by kernel_rfl) (fun w'=>Below w7.heap.size w7 w') ⟨rfl,rfl,rfl,Nat.le_refl _,fun _ _=>rfl⟩ (.string ⟨AC.toArray⟩) rfl (fun w=>rfl) (fun c a w h=>h) ?_
   refine Gr.a1f fun K hK=>?_;go_simp;refine hK _ ?_;clear hK K
   simp only[List.take_succ_cons,List.take_zero,List.drop_succ_cons,List.drop_zero]
   iterate 6
    first
    |apply Gr.sn (.string ⟨N1.toArray⟩);focus(go_simp;intro w' hw';go_simp;rw[Gr.b_];exact Ret.fam (HN2.out w' (HW7.out.trans (hw'.mono HW7.out.size))) hw';done)
    |apply Gr.sn;focus(go_simp;intro w' hw';go_simp;rw[Gr.a_];done)
    |apply Gr.sn;focus(go_simp;intro w' hw';have v0:=(HV.out.below hw').cell 0 rfl;go_simp;rw[Gr.a_];done)
    |apply Gr.sn;focus(go_simp;intro w' hw';have v1:=(HV.out.below hw').cell 1 rfl;go_simp;rw[Gr.a_];done)
    |apply Gr.sn;focus(go_simp;intro w' hw';have t0:=(HB7.out.below hw').cell 0 rfl;have t1:=(HB7.out.below hw').cell 1 rfl;have t2:=(HB7.out.below hw').cell 2 rfl;have t3:=(HB7.out.below hw').cell 3 rfl;have t4:=(HB7.out.below hw').cell 4 rfl;go_simp;rw[Gr.a_];done)
    intro K hK;go_simp;refine hK _ ?_;clear hK K
   refine Gr.o_ fun w8 hw8=>?_
   have HW8:=t_ HW7 hw8
   clear hw8 HN2 HV
   obtain⟨J4,hJ4⟩:∃J,J=[44,32,70,79,82,69,73,71,78,32,75,69,89]++32::(N1++32::([82,69,70,69,82,69,78,67,69,83]++32::ftb)):=⟨_,rfl⟩
   have HJ4:=h_ hJ4
   have hj4:J4.length<=1000:=by rw[hJ4];simp;omega
   have hsj:=mkS J4
   have y3:¬maxLen<AC.length+J4.length:=by unfold maxLen;omega
   go_wp2_with fail
   refine(a9E [44,32,70,79,82,69,73,71,78,32,75,69,89] N1 [82,69,70,69,82,69,78,67,69,83] ftb w8 (by decide) hnf.2.1 (by decide) hft.2 (by simp;omega)).mono ?_
   rw[<-hJ4]
   rintro e w9 ⟨rfl,hw9⟩
   have HB9:=h_ (HBB.out.trans (((HW8.out.trans ((d_ w8 _).mono HW8.out.size)).trans (hw9.mono (Nat.le_trans HW8.out.size (by simp)))).mono HBB.out.size))
   clear hw9 hJ4
   go_wp2_with fail
   go_roundw
   case rel=>exact⟨j+1,by omega,by rw[HM1.out,<-HAC.out,HFT2.out];exact congrArg Value.string (str_eq (by rw[ByteArray.data_append,HJ4.out];simp)),by go_num,HB9.out⟩
   case measure=>simp[intOf];omega
  ·obtain rfl:j=Fs.length:=by omega
   have d2:decide ((Fs.length:Int)<(Fs.length:Int))=false:=decide_eq_false (by omega)
   have hb1:=HFT.out Fs.length
   rw[List.take_length] at hb1
   have HTL:=h_ (List.take_length (l:=Fs))
   generalize Fs.take Fs.length=FF at HTL |-
   obtain rfl:FF=Fs:=HTL.out
   obtain⟨w6,e6⟩:∃x,x=wr:=⟨_,rfl⟩
   subst e6
   have HCR2:Hid (R=HD2++(FF.map (a0V L)).flatten++(Xs.map a0F).flatten++[41]):=HCR
   have hlc:(HD2++(FF.map (a0V L)).flatten).length<=4000:=by rw[List.length_append];omega
   generalize HD2++(FF.map (a0V L)).flatten=AC at HCR2 hlc |-
   go_upto_region 8 with(fail)
   go_loopw [5,43] (fun s i wi=>∃n:Nat,n<=Xs.length/\s=.string ⟨(AC++((Xs.take n).map a0F).flatten).toArray⟩/\i=.int .i64 (n:Int)/\Below w6.heap.size w6 wi) (fun _ i _=>Xs.length - (intOf i).toNat)
   case atStart=>exact⟨0,Nat.zero_le _,by simp,rfl,Below.refl _ _⟩
   case round=>
    obtain⟨n,hn,rfl,rfl,hb⟩:=hrel
    have HB7:=h_ hb
    have HWn:=t_ HWr hb
    clear hb
    by_cases hlt3:n<Xs.length
    ·have k1:(n:Int)<(Xs.length:Int):=by omega
     have k0:(0:Int)<=(n:Int):=by omega
     obtain⟨g,o,us,eq,hec,hkx,hrx⟩:=H4.out.ec hlt3
     subst eq
     have HP1:=h_ fun(w':World) (hw':Below wr.heap.size wr w')=>HEX.out w' Xs[n] us (List.getElem_mem hkx) hrx (HWn.out.trans (hw'.mono HWn.out.size))
     have HT:=h_ (a3o a0F hkx)
     have HCT:Hid (a0F Xs[n]=[44,32,67,72,69,67,75,32,40]++txt Xs[n]++[41]):=h_ rfl
     have hb2:=HXT.out n
     have htx:=(A_ _ Xs[n] (Nat.le_refl _) (HXX.out _ (List.getElem_mem hkx)).2).2
     have hnx:=(HXX.out _ (List.getElem_mem hkx)).1
     generalize hM1:((Xs.take (n+1)).map a0F).flatten=M1 at HT
     have HM1:=h_ hM1
     clear hM1
     generalize a0F Xs[n]=ct at HT HCT
     have hst:=mkS (txt Xs[n])
     have htl:(txt Xs[n]).length<=1200000:=by omega
     clear htx hnx
     generalize txt Xs[n]=tx at HP1 HCT hst htl
     have hlc2:(AC++((Xs.take n).map a0F).flatten).length<=6000000:=by rw[List.length_append];omega
     have HAC:Hid (AC++((Xs.take n).map a0F).flatten++ct=AC++M1):=h_ (by rw[HT.out,List.append_assoc])
     have hsa:=mkS (AC++((Xs.take n).map a0F).flatten)
     generalize AC++((Xs.take n).map a0F).flatten=AD at hlc2 HAC hsa |-
     have y1:¬maxLen<9+tx.length:=by unfold maxLen;omega
     have y2:¬maxLen<9+tx.length+1:=by unfold maxLen;omega
     have y3:¬maxLen<AD.length+(9+tx.length+1):=by unfold maxLen;omega
     generalize Xs[n]=xk at hrx
     obtain⟨eop,eint,evk,evi,evs,enm,el⟩:=xk
     obtain⟨ea,em,rfl,_⟩:=hrx.lits
     obtain⟨c0,c1,c2,c3,c4,c5,c6⟩:=hec.c7 HWn.out
     have lg:g<wr.heap.size:=Nat.lt_of_lt_of_le hec.1 HWn.out.size
     clear hec hrx HT
     go_wp2_with fail
     refine(HP1.out _ (d_ wr _)).mono ?_
     rintro e w8 ⟨rfl,hw8⟩
     have HB8:=h_ (HB7.out.trans (((d_ wr _).trans (hw8.mono (by simp))).mono HB7.out.size))
     clear hw8 c0 c1 c2 c3 c4 c5 c6 HP1
     go_wp2_with fail
     go_roundw
     case rel=>exact⟨n+1,by omega,by rw[HM1.out,<-HAC.out,HCT.out];exact congrArg Value.string (str_eq (by simp[ByteArray.data_append])),by go_num,HB8.out⟩
     case measure=>simp[intOf];omega
    ·obtain rfl:n=Xs.length:=by omega
     have d3:decide ((Xs.length:Int)<(Xs.length:Int))=false:=decide_eq_false (by omega)
     have hb2:=HXT.out Xs.length
     have HTL2:Hid (((Xs.take Xs.length).map a0F).flatten=(Xs.map a0F).flatten):=h_ (by rw[List.take_length])
     have HR2:Hid (R=AC++((Xs.take Xs.length).map a0F).flatten++[41]):=h_ (by rw[HTL2.out];exact HCR2.out)
     have hlc2:(AC++((Xs.take Xs.length).map a0F).flatten).length<=6000000:=by rw[List.length_append];omega
     have hsa:=mkS (AC++((Xs.take Xs.length).map a0F).flatten)
     generalize AC++((Xs.take Xs.length).map a0F).flatten=AD at hlc2 HR2 hsa |-
     have y3:¬maxLen<AD.length+1:=by unfold maxLen;omega
     go_wp2_with fail
     go_ret
     rw[HR2.out]
     exact Ret.str (by simp[ByteArray.data_append]) HWn.out
end Go.Proofs.YtlimlmjljjmcpaaGreatDoor.Px
