import Derived.Test.YtlimlmjljjmcpaaGreatDoorTsY
import Derived.Deep.RegionHeldLaw
set_option maxHeartbeats 16000000
set_option maxRecDepth 100000
namespace Go.Proofs.YtlimlmjljjmcpaaGreatDoor.Px
open Go Go.RowKit Go.Proofs.YtlimlmjljjmcpaaGreatDoor.Ps
set_option linter.unusedVariables false
set_option linter.unusedSimpArgs false
theorem a9N(L:List Col)(K:List Int)(Fs:List Fkey)(Xs:List X)(tn:S)(a a2 a3 ax:Option Addr)(m m2 m3 mx:Nat)(w:World)(hE:Env w)(ht:Ax.a0O w)(hxl:Xs.length<=1000000)(hxn:∀x∈Xs,nodes x<=1152921504606846976)(hn:tn.length<=maxLen)(h1:CL w L (.slice a L.length m))(h2:IL w K (.slice a2 K.length m2))(h3:FL w Fs (.slice a3 Fs.length m3))(h4:XL w Xs (.slice ax Xs.length mx))(cs:List Value)(hcs:cs=stC (tbC tn a L.length m a2 K.length m2 a3 Fs.length m3) (.slice ax Xs.length mx))(b:Bool)(t:S)(htn:t ≠ [])(htl:b=true->t.length<=1000000000)(hc:∀w':World,Below w.heap.size w w'->Calls Tryz.prog 106 #[.agg #[.string ⟨tn.toArray⟩,.slice a L.length m,.slice a2 K.length m2,.slice a3 Fs.length m3,.slice none 0 0],.slice ax Xs.length mx] w' (Ret w' (.bool b)))(hd:b=true -> ∀w':World,Below w.heap.size w w'->Calls Tryz.prog 117 #[.agg #[.string ⟨tn.toArray⟩,.slice a L.length m,.slice a2 K.length m2,.slice a3 Fs.length m3,.slice none 0 0],.slice ax Xs.length mx] w' (Ret w' (.string ⟨t.toArray⟩))):Calls Tryz.prog 15 #[.agg cs.toArray] w (Ret w (a4c (a6Q Xs b t))):=by
 have HLN:Hid (cs.length=60):=h_ (by rw[hcs];exact a1s _ _ rfl)
 have HDP:=h_ fun(w':World) (hw':Below w.heap.size w w')=>b7F tn a L.length m a2 K.length m2 a3 Fs.length m3 ax Xs.length mx w' cs hcs Xs rfl hxl hxn (Ax.n_ ht hw') (h4.kept hw' (Nat.le_refl _))
 have HUS:=h_ fun(w':World) (hw':Below w.heap.size w w')=>(show Calls Tryz.prog 45 #[.agg cs.toArray] w' (Ret w' (.agg cs.toArray)) from hcs ▸ (c0c c0X rfl rfl (a8b tn (a,L.length,m) (a2,K.length,m2) (a3,Fs.length,m3) (ax,Xs.length,mx)) (a2j _ _ _ _ _) w' (Ax.n_ ht hw')))
 have HPK:=h_ fun(w':World) (hw':Below w.heap.size w w')=>(show Calls Tryz.prog 46 #[.agg cs.toArray] w' (Ret w' (.bool true)) from hcs ▸ (a7q (r0:=.lit (.bool true)) b2J rfl rfl (a8b tn (a,L.length,m) (a2,K.length,m2) (a3,Fs.length,m3) (ax,Xs.length,mx)) (a2j _ _ _ _ _) w' (Ax.n_ ht hw')))
 have HPX:=h_ fun(w':World) (hw':Below w.heap.size w w')=>(show Calls Tryz.prog 49 #[.agg cs.toArray] w' (Ret w' (.string ⟨#[]⟩)) from hcs ▸ (a7q (r0:=.str []) b7W rfl rfl (a8b tn (a,L.length,m) (a2,K.length,m2) (a3,Fs.length,m3) (ax,Xs.length,mx)) (a2j _ _ _ _ _) w' (Ax.n_ ht hw')))
 have HSM:=h_ fun(w':World) (hw':Below w.heap.size w w')=>b4H L K Fs Xs tn a a2 a3 ax m m2 m3 mx w' (Ax.n_ ht hw') hn (h1.kept hw' (Nat.le_refl _)) (h2.kept hw' (Nat.le_refl _)) (h3.kept hw' (Nat.le_refl _)) (h4.kept hw' (Nat.le_refl _)) cs hcs
 have HSK:=h_ fun(w':World) (hw':Below w.heap.size w w')=>a6V tn a L.length m a2 K.length m2 a3 Fs.length m3 ax Xs.length mx w' cs hcs b (fun w2 hw2=>hc w2 (hw'.trans (hw2.mono hw'.size)))
 have HST:=h_ fun(hb:b=true) (w':World) (hw':Below w.heap.size w w')=>a8d tn a L.length m a2 K.length m2 a3 Fs.length m3 ax Xs.length mx w' cs hcs t (fun w2 hw2=>hd hb w2 (hw'.trans (hw2.mono hw'.size)))
 have HFN:=h_ fun(w':World)=>a9W t w'
 have HON:Hid (∀u∈cs,u.oneCell'=true):=h_ (by rw[hcs];exact a8k _ _ (fun u hu=>List.all_eq_true.1 (show(List.all (tbC tn a L.length m a2 K.length m2 a3 Fs.length m3) fun u=>u.oneCell')=true from rfl) u hu) rfl)
 have HR:Hid (a6Q Xs b t=if dps Xs then([],26) else if b then fin t else([],8)):=h_ rfl
 have HTL:=h_ htl
 clear hc hd ht hn h1 h2 h3 h4 hE hxn htl
 generalize a6Q Xs b t=R at HR |-
 generalize dps Xs=q at HDP HR
 have HCS:Hid (cs=stC (tbC tn a L.length m a2 K.length m2 a3 Fs.length m3) (.slice ax Xs.length mx)):=h_ hcs
 clear hcs
 go_enter Tryz.func15,Tryz.ntmps15
 go_wp2_with (refine a0G rfl 63 (.tmp 0) rfl cs rfl ?_)
 intro w1 hB hw1 hz1
 have HB:=h_ hB
 have HW:=h_ hw1
 clear hB hw1 hz1
 go_wp2_with (refine T_ rfl (wpList_load_mid rfl 63 (.tmp 1) rfl w.heap.size 0 rfl cs _ HB.out.all Tryz.underlying63 rfl (by rw[HLN.out];kernel_rfl) ?_))
 refine(HDP.out w1 HW.out).mono ?_
 rintro e w2 ⟨rfl,hw2⟩
 have HW2:=t_ HW hw2
 have HB2:=h_ (HB.out.below hw2)
 clear hw2 HDP
 cases q with
 |true=>
  have HR2:Hid (R=([],26)):=h_ (by rw[HR.out];rfl)
  go_wp2_with fail
  go_ret2
  exact⟨by rw[HR2.out];rfl,HW2.out⟩
 |false=>
  have HR2:Hid (R=if b then fin t else([],8)):=h_ (by rw[HR.out];rfl)
  clear HR
  go_wp2_with (refine T_ rfl (wpList_load_mid rfl 63 (.tmp 1) rfl w.heap.size 0 rfl cs _ HB2.out.all Tryz.underlying63 rfl (by rw[HLN.out];kernel_rfl) ?_))
  refine(HUS.out w2 HW2.out).mono ?_
  rintro e w3 ⟨rfl,hw3⟩
  have HW3:=t_ HW2 hw3
  have HB3:=h_ (HB2.out.below hw3)
  clear hw3 HUS
  go_wp2_with (refine a2y rfl 63 (.tmp 4) (.tmp 8) rfl w3.heap.size cs rfl rfl 63 _ (Blk.new w3 _ _) (by rw[HLN.out];kernel_rfl) (by rw[HLN.out];rfl) HON.out ?_)
  intro w4 hB4 hg4 hz4
  have hbb:Below w3.heap.size w3 w4:=((Below.refl w3.heap.size w3).alloc (Nat.le_refl _) _).grown hg4 (by simp) (fun k e=>by injection e with e;omega)
  have HX4:=h_ hB4
  have HB4:=h_ (HB3.out.below hbb)
  have HW4:=t_ HW3 hbb
  clear hB4 hg4 hz4 hbb HON
  go_wp2_with (first|(refine T_ rfl (wpList_load_mid rfl 63 (.tmp 1) rfl w.heap.size 0 rfl cs _ HB4.out.all Tryz.underlying63 rfl (by rw[HLN.out];kernel_rfl) ?_))|(refine T_ rfl (wpList_load_mid rfl 63 (.tmp 4) rfl w3.heap.size 0 rfl cs _ HX4.out.all Tryz.underlying63 rfl (by rw[HLN.out];kernel_rfl) ?_)))
  refine(HSM.out w4 HW4.out).mono ?_
  rintro e w5 ⟨rfl,hw5⟩
  have HW5:=t_ HW4 hw5
  have HB5:=h_ (HB4.out.below hw5)
  clear hw5 HSM HX4
  go_wp2_with (refine T_ rfl (wpList_load_mid rfl 63 (.tmp 1) rfl w.heap.size 0 rfl cs _ HB5.out.all Tryz.underlying63 rfl (by rw[HLN.out];kernel_rfl) ?_))
  refine(HPK.out w5 HW5.out).mono ?_
  rintro e w6 ⟨rfl,hw6⟩
  have HW6:=t_ HW5 hw6
  have HB6:=h_ (HB5.out.below hw6)
  clear hw6 HPK
  go_wp2_with (refine T_ rfl (wpList_load_mid rfl 63 (.tmp 1) rfl w.heap.size 0 rfl cs _ HB6.out.all Tryz.underlying63 rfl (by rw[HLN.out];kernel_rfl) ?_))
  refine(HSK.out w6 HW6.out).mono ?_
  rintro e w7 ⟨rfl,hw7⟩
  have HW7:=t_ HW6 hw7
  have HB7:=h_ (HB6.out.below hw7)
  clear hw7 HSK
  cases b with
  |false=>
   have HR3:Hid (R=([],8)):=h_ (by rw[HR2.out];rfl)
   go_wp2_with fail
   go_ret2
   exact⟨by rw[HR3.out];rfl,HW7.out⟩
  |true=>
   have HR3:Hid (R=fin t):=h_ (by rw[HR2.out];rfl)
   have htl2:=HTL.out rfl
   have HST2:=h_ (HST.out rfl)
   clear HST HR2
   go_upto_region 6 with(fail)
   have HFT:=h_ HFN.out
   generalize fin t=F at HFT HR3
   obtain⟨f1,f2⟩:=F
   unfold a4c at HFT
   dsimp only at HFT
   refine wp_region_any (by kernel_rfl) ?_
   (try(change wpAny _ _ _ _ _ _ _ (World.drew _)))
   refine wpAny_ready (rs:=[0,2]) (by kernel_rfl) (by simp) ?_
   refine AllReady.cons rfl (fun K hK=>?_) (AllReady.cons rfl (fun K hK=>?_) AllReady.nil)
   rotate_left
   refine a1p rfl 63 (.tmp 1) rfl w.heap.size 0 rfl cs _ ((HB7.out.drewN 1).all) Tryz.underlying63 rfl (by rw[HLN.out];kernel_rfl) ?_
   refine hK _ _ ?_;clear hK K
   try simp only[Act.put,List.getElem_toArray,List.getElem_cons_succ,List.getElem_cons_zero,List.setIfInBounds_toArray,List.set_cons_zero,List.set_cons_succ]
   refine wpAny_ready (rs:=[0]) (by kernel_rfl) (by simp) ?_
   refine AllReady.cons rfl (fun K hK=>?_) AllReady.nil
   refine a1p rfl 63 (.tmp 1) rfl w.heap.size 0 rfl cs _ ((HB7.out.drewN 1).all) Tryz.underlying63 rfl (by rw[HLN.out];kernel_rfl) ?_
   refine hK _ _ ?_;clear hK K
   try simp only[Act.put,List.getElem_toArray,List.getElem_cons_succ,List.getElem_cons_zero,List.setIfInBounds_toArray,List.set_cons_zero,List.set_cons_succ]
   refine wpAny_ready (rs:=[1]) (by kernel_rfl) (by simp) ?_
   refine AllReady.cons rfl (fun K hK=>?_) AllReady.nil
   go_simp
   refine(HPX.out _ (Y_ HW7.out)).mono ?_
   rintro e w8 ⟨rfl,hw8⟩
   have HX8:Hid (Below w7.heap.size w7 w8):=h_ (N_ hw8)
   have HB8:=h_ (HB7.out.below HX8.out)
   have HW8:=h_ (HW7.out.trans (HX8.out.mono HW7.out.size))
   clear hw8
   try go_simp
   refine hK _ _ ?_;clear hK K
   try simp only[Act.put,List.getElem_toArray,List.getElem_cons_succ,List.getElem_cons_zero,List.setIfInBounds_toArray,List.set_cons_zero,List.set_cons_succ]
   rotate_left
   refine a1p rfl 63 (.tmp 1) rfl w.heap.size 0 rfl cs _ ((HB7.out.drewN 1).all) Tryz.underlying63 rfl (by rw[HLN.out];kernel_rfl) ?_
   refine hK _ _ ?_;clear hK K
   try simp only[Act.put,List.getElem_toArray,List.getElem_cons_succ,List.getElem_cons_zero,List.setIfInBounds_toArray,List.set_cons_zero,List.set_cons_succ]
   refine wpAny_ready (rs:=[1,2]) (by kernel_rfl) (by simp) ?_
   refine AllReady.cons rfl (fun K hK=>?_) (AllReady.cons rfl (fun K hK=>?_) AllReady.nil)
   go_simp
   refine(HPX.out _ (Y_ HW7.out)).mono ?_
   rintro e w8 ⟨rfl,hw8⟩
   have HX8:Hid (Below w7.heap.size w7 w8):=h_ (N_ hw8)
   have HB8:=h_ (HB7.out.below HX8.out)
   have HW8:=h_ (HW7.out.trans (HX8.out.mono HW7.out.size))
   clear hw8
   try go_simp
   refine hK _ _ ?_;clear hK K
   try simp only[Act.put,List.getElem_toArray,List.getElem_cons_succ,List.getElem_cons_zero,List.setIfInBounds_toArray,List.set_cons_zero,List.set_cons_succ]
   refine wpAny_ready (rs:=[2]) (by kernel_rfl) (by simp) ?_
   refine AllReady.cons rfl (fun K hK=>?_) AllReady.nil
   refine a1p rfl 63 (.tmp 1) rfl w.heap.size 0 rfl cs _ (HB8.out.all) Tryz.underlying63 rfl (by rw[HLN.out];kernel_rfl) ?_
   refine hK _ _ ?_;clear hK K
   try simp only[Act.put,List.getElem_toArray,List.getElem_cons_succ,List.getElem_cons_zero,List.setIfInBounds_toArray,List.set_cons_zero,List.set_cons_succ]
   rotate_left
   refine a1p rfl 63 (.tmp 1) rfl w.heap.size 0 rfl cs _ ((HB7.out.drewN 1).all) Tryz.underlying63 rfl (by rw[HLN.out];kernel_rfl) ?_
   refine hK _ _ ?_;clear hK K
   try simp only[Act.put,List.getElem_toArray,List.getElem_cons_succ,List.getElem_cons_zero,List.setIfInBounds_toArray,List.set_cons_zero,List.set_cons_succ]
   refine wpAny_ready (rs:=[1]) (by kernel_rfl) (by simp) ?_
   refine AllReady.cons rfl (fun K hK=>?_) AllReady.nil
   go_simp
   refine(HPX.out _ (Y_ HW7.out)).mono ?_
   rintro e w8 ⟨rfl,hw8⟩
   have HX8:Hid (Below w7.heap.size w7 w8):=h_ (N_ hw8)
   have HB8:=h_ (HB7.out.below HX8.out)
   have HW8:=h_ (HW7.out.trans (HX8.out.mono HW7.out.size))
   clear hw8
   try go_simp
   refine hK _ _ ?_;clear hK K
   try simp only[Act.put,List.getElem_toArray,List.getElem_cons_succ,List.getElem_cons_zero,List.setIfInBounds_toArray,List.set_cons_zero,List.set_cons_succ]
   all_goals
    refine wpAny_ready (rs:=[3]) (by kernel_rfl) (by simp) ?_
    refine AllReady.cons rfl (fun K hK=>?_) AllReady.nil
    go_simp
    refine(HST2.out _ HW8.out).mono ?_
    rintro e w9 ⟨rfl,hw9⟩
    have HW9:=t_ HW8 hw9
    clear hw9
    try go_simp
    refine hK _ _ ?_;clear hK K
    try simp only[Act.put,List.getElem_toArray,List.getElem_cons_succ,List.getElem_cons_zero,List.setIfInBounds_toArray,List.set_cons_zero,List.set_cons_succ]
    refine wpAny_ready (rs:=[4]) (by kernel_rfl) (by simp) ?_
    refine AllReady.cons rfl (fun K hK=>?_) AllReady.nil
    go_simp
    refine hK _ _ ?_;clear hK K
    try simp only[Act.put,List.getElem_toArray,List.getElem_cons_succ,List.getElem_cons_zero,List.setIfInBounds_toArray,List.set_cons_zero,List.set_cons_succ]
    refine wpAny_ready (rs:=[5]) (by kernel_rfl) (by simp) ?_
    refine AllReady.cons rfl (fun K hK=>?_) AllReady.nil
    go_simp
    refine(b4P t w9 htn htl2).mono ?_
    rintro e w10 ⟨rfl,hw10⟩
    have HW10:=h_ ((HW9.out.trans ((d_ w9 _).mono HW9.out.size)).trans (hw10.mono (Nat.le_trans HW9.out.size (by simp))))
    clear hw10
    try go_simp
    refine hK _ _ ?_;clear hK K
    try simp only[Act.put,List.getElem_toArray,List.getElem_cons_succ,List.getElem_cons_zero,List.setIfInBounds_toArray,List.set_cons_zero,List.set_cons_succ]
    refine wpAny_ready (rs:=[6]) (by kernel_rfl) (by simp) ?_
    refine AllReady.cons rfl (fun K hK=>?_) AllReady.nil
    go_simp
    refine(HFT.out w10).mono ?_
    rintro e w11 ⟨rfl,hw11⟩
    have HW11:=t_ HW10 hw11
    clear hw11
    try go_simp
    refine hK _ _ ?_;clear hK K
    try simp only[Act.put,List.getElem_toArray,List.getElem_cons_succ,List.getElem_cons_zero,List.setIfInBounds_toArray,List.set_cons_zero,List.set_cons_succ]
    apply wpAny_take (i:=7) rfl (by kernel_rfl) (by kernel_rfl) (by kernel_rfl) (fun _ _ _ h=>h) (Or.inl ⟨by rfl,?_⟩)
    rotate_right
    focus(intro w;go_simp;(try with_reducible rfl))
    try simp only[Act.put,List.getElem_toArray,List.getElem_cons_succ,List.getElem_cons_zero,List.setIfInBounds_toArray,List.set_cons_zero,List.set_cons_succ]
    apply wpAny_take (i:=8) rfl (by kernel_rfl) (by kernel_rfl) (by kernel_rfl) (fun _ _ _ h=>h) (Or.inl ⟨by rfl,?_⟩)
    rotate_right
    focus(intro w;go_simp;(try with_reducible rfl))
    try simp only[Act.put,List.getElem_toArray,List.getElem_cons_succ,List.getElem_cons_zero,List.setIfInBounds_toArray,List.set_cons_zero,List.set_cons_succ]
    apply wpAny_take (i:=9) rfl (by kernel_rfl) (by kernel_rfl) (by kernel_rfl) (fun _ _ _ h=>h) (Or.inl ⟨by rfl,?_⟩)
    rotate_right
    focus(intro w;go_simp;(try with_reducible rfl))
    try simp only[Act.put,List.getElem_toArray,List.getElem_cons_succ,List.getElem_cons_zero,List.setIfInBounds_toArray,List.set_cons_zero,List.set_cons_succ]
    apply wpAny_take (i:=10) rfl (by kernel_rfl) (by kernel_rfl) (by kernel_rfl) (fun _ _ _ h=>h) (Or.inl ⟨by rfl,?_⟩)
    rotate_right
    focus(intro w;go_simp;(try with_reducible rfl))
    try simp only[Act.put,List.getElem_toArray,List.getElem_cons_succ,List.getElem_cons_zero,List.setIfInBounds_toArray,List.set_cons_zero,List.set_cons_succ]
    refine wpAny_done (by kernel_rfl) ?_ _
    go_wp2_with fail
    go_ret2
    exact⟨by rw[HR3.out];rfl,HW11.out⟩
end Go.Proofs.YtlimlmjljjmcpaaGreatDoor.Px
