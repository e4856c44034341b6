import Derived.Test.YtlimlmjljjmcpaaGreatDoorTsX
set_option maxHeartbeats 20000000
set_option maxRecDepth 100000
namespace Go.Proofs.YtlimlmjljjmcpaaGreatDoor.Ps
open Go Go.RowKit
set_option linter.unusedVariables false
set_option linter.unusedSimpArgs false
theorem b8X(xs ys:List C)(a b:Option Addr)(n m n' m':Nat)(w:World)(h1:Rp Tryz.prog w 50 [.slice a n m] (.s xs))(h2:Rp Tryz.prog w 50 [.slice b n' m'] (.s ys)) :
  Calls Tryz.prog 86 #[.slice a n m,.slice b n' m'] w (g_ w (.s xs) (.s ys)):=by
 obtain⟨l1,n1⟩:=H_ Tryz.underlying50 (by kernel_rfl:Tryz.prog.bytesOf 3=8) (by decide) h1
 obtain⟨l2,n2⟩:=H_ Tryz.underlying50 (by kernel_rfl:Tryz.prog.bytesOf 3=8) (by decide) h2
 have H1:=Lib.hid h1
 have H2:=Lib.hid h2
 have L1:=Lib.hid l1
 have L2:=Lib.hid l2
 clear h1 h2 l1 l2
 by_cases hlen:n=n'
 ·subst hlen
  go_enter Tryz.func86,Tryz.ntmps86
  go_wp2_with fail
  go_loopw [13] (fun c wr=>∃k,LoopR w n k xs ys c wr) (fun c _=>n - (intOf c).toNat)
  case atStart=>exact⟨0,⟨Nat.zero_le _,rfl,a1l _ _,Below.refl _ _⟩⟩
  case round=>
   obtain⟨k,⟨hk,rfl,hs,hb⟩⟩:=hrel
   have HS:=Lib.hid hs
   clear hs
   by_cases hlt:k<n
   ·obtain⟨g,o,us,eq,hgl,hul,hcell,hkx,hrx⟩:=a0i Tryz.underlying50 a3e (by omega) H1.out hlt
    obtain⟨g',o',vs,eq',hgl',hul',hcell',hkx',hrx'⟩:=a0i Tryz.underlying50 a3e (by omega) H2.out hlt
    subst eq eq'
    obtain⟨u0,rfl,hx0⟩:=hrx.a1N Tryz.underlying3
    obtain⟨v0,rfl,hy0⟩:=hrx'.a1N Tryz.underlying3
    have HXE:=Lib.hid hx0
    have HYE:=Lib.hid hy0
    have rr:∀j (u:Value),([.int .i64 u0]:List Value)[j]? = some u->wr.cell? ⟨g,o+k*1+j,none⟩=some u:=fun j u hu=>(hb.cell (by exact hgl)).trans (hcell j u hu)
    have ss:∀j (u:Value),([.int .i64 v0]:List Value)[j]? = some u->wr.cell? ⟨g',o'+k*1+j,none⟩=some u:=fun j u hu=>(hb.cell (by exact hgl')).trans (hcell' j u hu)
    have r0:=rr 0 _ rfl
    have s0:=ss 0 _ rfl
    simp only[Nat.add_zero,Nat.mul_one] at r0 s0
    have c2:(k:Int)<(n:Int):=by omega
    have c3:(0:Int)<=(k:Int):=by omega
    have d1:decide ((k:Int)<(n:Int))=true:=decide_eq_true c2
    have gl:g<wr.heap.size:=by have:=hb.size;omega
    have gl':g'<wr.heap.size:=by have:=hb.size;omega
    have HB:=Lib.hid hb
    clear rr ss hcell hcell' hul hul' hrx hrx' hb hx0 hy0
    by_cases hne:u0=v0
    case neg=>
     have hn:decide (u0=v0)=false:=decide_eq_false hne
     go_upto_region 6 with(fail)
     go_quiet (fail)
     refine a0q (K:=Exit.then _ _ _ _) fun w4 hw4 hz4=>?_
     have HB4:=Lib.hid (HB.out.trans (hw4.mono HB.out.size))
     clear hw4 HB
     go_wp2_with fail
     go_ret
     exact g_.no (fun e=>by injection e with e;rw[<-Z_,a1I hkx hkx' (by rw[HXE.out,HYE.out,w_];intro e2;simp at e2;simp_all)] at e;cases e) HB4.out
    subst hne
    go_upto_region 6 with(fail)
    go_quiet (fail)
    refine a0q (K:=Exit.then _ _ _ _) fun w4 hw4 hz4=>?_
    have HB4:=Lib.hid (HB.out.trans (hw4.mono HB.out.size))
    clear hw4 HB
    go_wp2_with fail
    go_roundw
    case rel=>exact⟨k+1,⟨by omega,by go_num,a1g HS.out hkx hkx' (by rw[HXE.out,HYE.out];exact a3h _),HB4.out⟩⟩
    case measure=>simp[intOf];omega
   ·obtain rfl:k=n:=by omega
    have d1:decide ((k:Int)<(k:Int))=false:=decide_eq_false (by omega)
    have HB:=Lib.hid hb
    clear hb
    go_wp2_with fail
    go_ret
    exact g_.yes (by rw[Z_.1 (a1G HS.out L1.out L2.out)]) HB.out
 ·have d0:decide ((n:Int)=(n':Int))=false:=decide_eq_false (by omega)
  go_enter Tryz.func86,Tryz.ntmps86
  go_wp2_with fail
  go_ret
  exact g_.no (fun e=>by injection e with e;exact hlen (L1.out.symm.trans ((congrArg List.length e).trans L2.out))) (Below.refl _ _)
theorem b7L(xs ys:List C)(a b:Option Addr)(n m n' m':Nat)(w:World)(h1:Rp Tryz.prog w 49 [.slice a n m] (.s xs))(h2:Rp Tryz.prog w 49 [.slice b n' m'] (.s ys)) :
  Calls Tryz.prog 85 #[.slice a n m,.slice b n' m'] w (g_ w (.s xs) (.s ys)):=by
 obtain⟨l1,n1⟩:=H_ Tryz.underlying49 (by kernel_rfl:Tryz.prog.bytesOf 55=32) (by decide) h1
 obtain⟨l2,n2⟩:=H_ Tryz.underlying49 (by kernel_rfl:Tryz.prog.bytesOf 55=32) (by decide) h2
 have H1:=Lib.hid h1
 have H2:=Lib.hid h2
 have L1:=Lib.hid l1
 have L2:=Lib.hid l2
 clear h1 h2 l1 l2
 by_cases hlen:n=n'
 ·subst hlen
  go_enter Tryz.func85,Tryz.ntmps85
  go_wp2_with fail
  go_loopw [13] (fun c wr=>∃k,LoopR w n k xs ys c wr) (fun c _=>n - (intOf c).toNat)
  case atStart=>exact⟨0,⟨Nat.zero_le _,rfl,a1l _ _,Below.refl _ _⟩⟩
  case round=>
   obtain⟨k,⟨hk,rfl,hs,hb⟩⟩:=hrel
   have HS:=Lib.hid hs
   clear hs
   by_cases hlt:k<n
   ·obtain⟨g,o,us,eq,hgl,hul,hcell,hkx,hrx⟩:=a0i Tryz.underlying49 a0L (by omega) H1.out hlt
    obtain⟨g',o',vs,eq',hgl',hul',hcell',hkx',hrx'⟩:=a0i Tryz.underlying49 a0L (by omega) H2.out hlt
    subst eq eq'
    obtain⟨us0,ui1,ub2,rfl,hx0,_⟩:=a1y hrx
    obtain⟨vs0,vi1,vb2,rfl,hy0,_⟩:=a1y hrx'
    have HXE:=Lib.hid hx0
    have HYE:=Lib.hid hy0
    have rr:∀j (u:Value),([.string us0,.int .i64 ui1,.bool ub2]:List Value)[j]? = some u->wr.cell? ⟨g,o+k*3+j,none⟩=some u:=fun j u hu=>(hb.cell (by exact hgl)).trans (hcell j u hu)
    have ss:∀j (u:Value),([.string vs0,.int .i64 vi1,.bool vb2]:List Value)[j]? = some u->wr.cell? ⟨g',o'+k*3+j,none⟩=some u:=fun j u hu=>(hb.cell (by exact hgl')).trans (hcell' j u hu)
    have r0:=rr 0 _ rfl
    have s0:=ss 0 _ rfl
    have r1:=rr 1 _ rfl
    have s1:=ss 1 _ rfl
    have r2:=rr 2 _ rfl
    have s2:=ss 2 _ rfl
    simp only[Nat.add_zero] at r0 s0
    have c2:(k:Int)<(n:Int):=by omega
    have c3:(0:Int)<=(k:Int):=by omega
    have d1:decide ((k:Int)<(n:Int))=true:=decide_eq_true c2
    have gl:g<wr.heap.size:=by have:=hb.size;omega
    have gl':g'<wr.heap.size:=by have:=hb.size;omega
    have HB:=Lib.hid hb
    clear rr ss hcell hcell' hul hul' hrx hrx' hb hx0 hy0
    by_cases hne:us0=vs0
    case neg=>
     have hn:¬us0.toList=vs0.toList:=fun e=>hne (toList_inj e)
     have hm:(us0.toList==vs0.toList)=false:=beq_eq_false_iff_ne.2 hn
     go_upto_region 6 with(fail)
     go_quiet (fail)
     refine a0q (K:=Exit.then _ _ _ _) fun w4 hw4 hz4=>?_
     have HB4:=Lib.hid (HB.out.trans (hw4.mono HB.out.size))
     clear hw4 HB
     go_wp2_with fail
     go_ret
     exact g_.no (fun e=>by injection e with e;rw[<-Z_,a1I hkx hkx' (by rw[HXE.out,HYE.out,w_];intro e2;simp at e2;simp_all)] at e;cases e) HB4.out
    subst hne
    by_cases hne:ui1=vi1
    case neg=>
     have hn:decide (ui1=vi1)=false:=decide_eq_false hne
     go_upto_region 6 with(fail)
     go_quiet (fail)
     refine a0q (K:=Exit.then _ _ _ _) fun w4 hw4 hz4=>?_
     have HB4:=Lib.hid (HB.out.trans (hw4.mono HB.out.size))
     clear hw4 HB
     go_wp2_with fail
     go_ret
     exact g_.no (fun e=>by injection e with e;rw[<-Z_,a1I hkx hkx' (by rw[HXE.out,HYE.out,w_];intro e2;simp at e2;simp_all)] at e;cases e) HB4.out
    subst hne
    by_cases hne:ub2=vb2
    case neg=>
     have hn:(ub2==vb2)=false:=beq_eq_false_iff_ne.2 hne
     go_upto_region 6 with(fail)
     go_quiet (fail)
     refine a0q (K:=Exit.then _ _ _ _) fun w4 hw4 hz4=>?_
     have HB4:=Lib.hid (HB.out.trans (hw4.mono HB.out.size))
     clear hw4 HB
     go_wp2_with fail
     go_ret
     exact g_.no (fun e=>by injection e with e;rw[<-Z_,a1I hkx hkx' (by rw[HXE.out,HYE.out,w_];intro e2;simp at e2;simp_all)] at e;cases e) HB4.out
    subst hne
    go_upto_region 6 with(fail)
    go_quiet (fail)
    refine a0q (K:=Exit.then _ _ _ _) fun w4 hw4 hz4=>?_
    have HB4:=Lib.hid (HB.out.trans (hw4.mono HB.out.size))
    clear hw4 HB
    go_wp2_with fail
    go_roundw
    case rel=>exact⟨k+1,⟨by omega,by go_num,a1g HS.out hkx hkx' (by rw[HXE.out,HYE.out];exact a3h _),HB4.out⟩⟩
    case measure=>simp[intOf];omega
   ·obtain rfl:k=n:=by omega
    have d1:decide ((k:Int)<(k:Int))=false:=decide_eq_false (by omega)
    have HB:=Lib.hid hb
    clear hb
    go_wp2_with fail
    go_ret
    exact g_.yes (by rw[Z_.1 (a1G HS.out L1.out L2.out)]) HB.out
 ·have d0:decide ((n:Int)=(n':Int))=false:=decide_eq_false (by omega)
  go_enter Tryz.func85,Tryz.ntmps85
  go_wp2_with fail
  go_ret
  exact g_.no (fun e=>by injection e with e;exact hlen (L1.out.symm.trans ((congrArg List.length e).trans L2.out))) (Below.refl _ _)
theorem b1v(N:Nat):a8M 88 122 N:=fun x y cs ds w hN h1 h2=>by
 obtain⟨aq0,an0,am0,ax0,as1,rfl,rfl,_,ah1,_⟩:=a0A h1
 have HA1:=Lib.hid ah1
 obtain⟨bq0,bn0,bm0,bx0,bs1,rfl,rfl,_,bh1,_⟩:=a0A h2
 have HB1:=Lib.hid bh1
 clear h1 h2 hN ah1 bh1
 go_enter Tryz.func88,Tryz.ntmps88
 go_upto_region 1 with(fail)
 refine a1B (K:=Code.wp _ _ _ _) fun w1 hB hX hw1 hz1=>?_
 have p0:=hB.cell 0 rfl
 have q0:=hX.cell 0 rfl
 have p1:=hB.cell 1 rfl
 have q1:=hX.cell 1 rfl
 have HBk:=Lib.hid hB
 have HXk:=Lib.hid hX
 have HW0:=Lib.hid hw1
 clear hB hX hw1
 go_wp2_with fail
 all_goals(try(refine(b8X ax0 bx0 _ _ _ _ _ _ w1 (HA1.out.kept HW0.out (Nat.le_refl _)) (HB1.out.kept HW0.out (Nat.le_refl _))).mono ?_;rintro e' w4 ⟨rfl,hw4⟩;have HW1:=Lib.hid (HW0.out.trans (hw4.mono HW0.out.size));have HW1b:=Lib.hid hw4;clear hw4 p0 q0 p1 q1;have p0:=(HBk.out.below HW1b.out).cell 0 rfl;have q0:=(HXk.out.below HW1b.out).cell 0 rfl;have p1:=(HBk.out.below HW1b.out).cell 1 rfl;have q1:=(HXk.out.below HW1b.out).cell 1 rfl;cases hq0:eqC (C.s ax0) (C.s bx0)<;>go_wp2_with fail))
 all_goals
  go_ret
  first
  |exact g_.no (by intro e;simp at e;simp_all[F_,z_,w_]) HW0.out
  |exact g_.no (by intro e;simp at e;simp_all[F_,z_,w_]) HW1.out
  |exact g_.yes (by simp_all[F_,z_,w_]) HW1.out
theorem b4w(N:Nat)(HI0:a8M 88 122 N)(xs ys:List C)(hN:∀x∈xs,SizeOf.sizeOf x<=N)(a b:Option Addr)(n m n' m':Nat)(w:World)(h1:Rp Tryz.prog w 51 [.slice a n m] (.s xs))(h2:Rp Tryz.prog w 51 [.slice b n' m'] (.s ys)) :
  Calls Tryz.prog 87 #[.slice a n m,.slice b n' m',.func (.func 88) #[] #[]] w (g_ w (.s xs) (.s ys)):=by
 obtain⟨l1,n1⟩:=H_ Tryz.underlying51 (by kernel_rfl:Tryz.prog.bytesOf 122=40) (by decide) h1
 obtain⟨l2,n2⟩:=H_ Tryz.underlying51 (by kernel_rfl:Tryz.prog.bytesOf 122=40) (by decide) h2
 have H1:=Lib.hid h1
 have H2:=Lib.hid h2
 have HI:=Lib.hid HI0
 have HN:=Lib.hid hN
 have L1:=Lib.hid l1
 have L2:=Lib.hid l2
 clear h1 h2 HI0 hN l1 l2
 by_cases hlen:n=n'
 ·subst hlen
  go_enter Tryz.func87,Tryz.ntmps87
  go_wp2_with fail
  go_loopw [17] (fun c wr=>∃k,LoopR w n k xs ys c wr) (fun c _=>n - (intOf c).toNat)
  case atStart=>exact⟨0,⟨Nat.zero_le _,rfl,a1l _ _,Below.refl _ _⟩⟩
  case round=>
   obtain⟨k,⟨hk,rfl,hs,hb⟩⟩:=hrel
   have HS:=Lib.hid hs
   clear hs
   by_cases hlt:k<n
   ·obtain⟨g,o,us,eq,hgl,hul,hcell,hkx,hrx⟩:=a0i Tryz.underlying51 a0g (by omega) H1.out hlt
    obtain⟨g',o',vs,eq',hgl',hul',hcell',hkx',hrx'⟩:=a0i Tryz.underlying51 a0g (by omega) H2.out hlt
    subst eq eq'
    have HX:=Lib.hid hrx
    have HY:=Lib.hid hrx'
    obtain⟨uq0,un0,um0,ux0,us1,rfl,_,_,_,_⟩:=a0A hrx
    obtain⟨vq0,vn0,vm0,vx0,vs1,rfl,_,_,_,_⟩:=a0A hrx'
    have rr:∀j (u:Value),([.slice uq0 un0 um0,.string us1]:List Value)[j]? = some u->wr.cell? ⟨g,o+k*2+j,none⟩=some u:=fun j u hu=>(hb.cell (by exact hgl)).trans (hcell j u hu)
    have ss:∀j (u:Value),([.slice vq0 vn0 vm0,.string vs1]:List Value)[j]? = some u->wr.cell? ⟨g',o'+k*2+j,none⟩=some u:=fun j u hu=>(hb.cell (by exact hgl')).trans (hcell' j u hu)
    have r0:=rr 0 _ rfl
    have r1:=rr 1 _ rfl
    have s0:=ss 0 _ rfl
    have s1:=ss 1 _ rfl
    simp only[Nat.add_zero] at r0 s0
    have c2:(k:Int)<(n:Int):=by omega
    have c3:(0:Int)<=(k:Int):=by omega
    have d1:decide ((k:Int)<(n:Int))=true:=decide_eq_true c2
    have gl:g<wr.heap.size:=by have:=hb.size;omega
    have gl':g'<wr.heap.size:=by have:=hb.size;omega
    have HB:=Lib.hid hb
    clear rr ss hcell hcell' hul hul' hrx hrx' hb
    go_wp2_with fail
    refine(HI.out xs[k] ys[k] _ _ _ (HN.out _ (List.getElem_mem _)) (HX.out.kept (HB.out.trans (((d_ wr _).trans (a4N _ _)).mono HB.out.size)) (Nat.le_refl _)) (HY.out.kept (HB.out.trans (((d_ wr _).trans (a4N _ _)).mono HB.out.size)) (Nat.le_refl _))).mono ?_
    rintro e' w4 ⟨rfl,hw4⟩
    have HB4:=Lib.hid ((HB.out.trans (((d_ wr _).trans (a4N _ _)).mono HB.out.size)).trans (hw4.mono (by have:=HB.out.size;simp;omega)))
    clear hw4 HX HY HB r0 r1 s0 s1
    cases hq:eqC xs[k] ys[k] with
    |true=>
     go_wp2_with fail
     go_roundw
     case rel=>exact⟨k+1,⟨by omega,by go_num,a1g HS.out _ _ hq,HB4.out⟩⟩
     case measure=>simp[intOf];omega
    |false=>
     go_wp2_with fail
     go_ret
     exact g_.no (fun e=>by injection e with e;rw[<-Z_,a1I hkx hkx' hq] at e;cases e) HB4.out
   ·obtain rfl:k=n:=by omega
    have d1:decide ((k:Int)<(k:Int))=false:=decide_eq_false (by omega)
    have HB:=Lib.hid hb
    clear hb
    go_wp2_with fail
    go_ret
    exact g_.yes (by rw[Z_.1 (a1G HS.out L1.out L2.out)]) HB.out
 ·have d0:decide ((n:Int)=(n':Int))=false:=decide_eq_false (by omega)
  go_enter Tryz.func87,Tryz.ntmps87
  go_wp2_with fail
  go_ret
  exact g_.no (fun e=>by injection e with e;exact hlen (L1.out.symm.trans ((congrArg List.length e).trans L2.out))) (Below.refl _ _)
theorem b4T(N:Nat):a8M 34 53 N:=fun x y cs ds w hN h1 h2=>by
 obtain⟨as0,aq1,an1,am1,ax1,aq2,an2,am2,ax2,aq3,an3,am3,ax3,aq4,an4,am4,ax4,rfl,rfl,_,_,ah2,_,ah4,_,ah6,_,ah8⟩:=a2z h1
 have HA2:=Lib.hid ah2
 have HA4:=Lib.hid ah4
 have HA6:=Lib.hid ah6
 have HA8:=Lib.hid ah8
 obtain⟨bs0,bq1,bn1,bm1,bx1,bq2,bn2,bm2,bx2,bq3,bn3,bm3,bx3,bq4,bn4,bm4,bx4,rfl,rfl,_,_,bh2,_,bh4,_,bh6,_,bh8⟩:=a2z h2
 have HB2:=Lib.hid bh2
 have HB4:=Lib.hid bh4
 have HB6:=Lib.hid bh6
 have HB8:=Lib.hid bh8
 clear h1 h2 hN ah2 ah4 ah6 ah8 bh2 bh4 bh6 bh8
 go_enter Tryz.func34,Tryz.ntmps34
 go_upto_region 1 with(fail)
 refine a1B (K:=Code.wp _ _ _ _) fun w1 hB hX hw1 hz1=>?_
 have p0:=hB.cell 0 rfl
 have q0:=hX.cell 0 rfl
 have p1:=hB.cell 1 rfl
 have q1:=hX.cell 1 rfl
 have p2:=hB.cell 2 rfl
 have q2:=hX.cell 2 rfl
 have p3:=hB.cell 3 rfl
 have q3:=hX.cell 3 rfl
 have p4:=hB.cell 4 rfl
 have q4:=hX.cell 4 rfl
 have HBk:=Lib.hid hB
 have HXk:=Lib.hid hX
 have HW0:=Lib.hid hw1
 clear hB hX hw1
 go_wp2_with fail
 all_goals(try(refine(b7L ax1 bx1 _ _ _ _ _ _ w1 (HA2.out.kept HW0.out (Nat.le_refl _)) (HB2.out.kept HW0.out (Nat.le_refl _))).mono ?_;rintro e' w4 ⟨rfl,hw4⟩;have HW1:=Lib.hid (HW0.out.trans (hw4.mono HW0.out.size));have HW1b:=Lib.hid hw4;clear hw4 p0 q0 p1 q1 p2 q2 p3 q3 p4 q4;have p0:=(HBk.out.below HW1b.out).cell 0 rfl;have q0:=(HXk.out.below HW1b.out).cell 0 rfl;have p1:=(HBk.out.below HW1b.out).cell 1 rfl;have q1:=(HXk.out.below HW1b.out).cell 1 rfl;have p2:=(HBk.out.below HW1b.out).cell 2 rfl;have q2:=(HXk.out.below HW1b.out).cell 2 rfl;have p3:=(HBk.out.below HW1b.out).cell 3 rfl;have q3:=(HXk.out.below HW1b.out).cell 3 rfl;have p4:=(HBk.out.below HW1b.out).cell 4 rfl;have q4:=(HXk.out.below HW1b.out).cell 4 rfl;cases hq0:eqC (C.s ax1) (C.s bx1)<;>go_wp2_with fail))
 all_goals(try(refine(b8X ax2 bx2 _ _ _ _ _ _ w4 (HA4.out.kept HW1.out (Nat.le_refl _)) (HB4.out.kept HW1.out (Nat.le_refl _))).mono ?_;rintro e' w5 ⟨rfl,hw5⟩;have HW2:=Lib.hid (HW1.out.trans (hw5.mono HW1.out.size));have HW2b:=Lib.hid (HW1b.out.trans (hw5.mono HW1b.out.size));clear hw5 p0 q0 p1 q1 p2 q2 p3 q3 p4 q4;have p0:=(HBk.out.below HW2b.out).cell 0 rfl;have q0:=(HXk.out.below HW2b.out).cell 0 rfl;have p1:=(HBk.out.below HW2b.out).cell 1 rfl;have q1:=(HXk.out.below HW2b.out).cell 1 rfl;have p2:=(HBk.out.below HW2b.out).cell 2 rfl;have q2:=(HXk.out.below HW2b.out).cell 2 rfl;have p3:=(HBk.out.below HW2b.out).cell 3 rfl;have q3:=(HXk.out.below HW2b.out).cell 3 rfl;have p4:=(HBk.out.below HW2b.out).cell 4 rfl;have q4:=(HXk.out.below HW2b.out).cell 4 rfl;cases hq1:eqC (C.s ax2) (C.s bx2)<;>go_wp2_with fail))
 all_goals(try(refine(b4w _ (b1v (SizeOf.sizeOf (C.s ax3))) ax3 bx3 (fun x hx=>by have:=List.sizeOf_lt_of_mem hx;simp;omega) _ _ _ _ _ _ w5 (HA6.out.kept HW2.out (Nat.le_refl _)) (HB6.out.kept HW2.out (Nat.le_refl _))).mono ?_;rintro e' w6 ⟨rfl,hw6⟩;have HW3:=Lib.hid (HW2.out.trans (hw6.mono HW2.out.size));have HW3b:=Lib.hid (HW2b.out.trans (hw6.mono HW2b.out.size));clear hw6 p0 q0 p1 q1 p2 q2 p3 q3 p4 q4;have p0:=(HBk.out.below HW3b.out).cell 0 rfl;have q0:=(HXk.out.below HW3b.out).cell 0 rfl;have p1:=(HBk.out.below HW3b.out).cell 1 rfl;have q1:=(HXk.out.below HW3b.out).cell 1 rfl;have p2:=(HBk.out.below HW3b.out).cell 2 rfl;have q2:=(HXk.out.below HW3b.out).cell 2 rfl;have p3:=(HBk.out.below HW3b.out).cell 3 rfl;have q3:=(HXk.out.below HW3b.out).cell 3 rfl;have p4:=(HBk.out.below HW3b.out).cell 4 rfl;have q4:=(HXk.out.below HW3b.out).cell 4 rfl;cases hq2:eqC (C.s ax3) (C.s bx3)<;>go_wp2_with fail))
 all_goals(try(refine(a9M _ (a7b (SizeOf.sizeOf (C.s ax4))) ax4 bx4 (fun x hx=>by have:=List.sizeOf_lt_of_mem hx;simp;omega) _ _ _ _ _ _ w6 (HA8.out.kept HW3.out (Nat.le_refl _)) (HB8.out.kept HW3.out (Nat.le_refl _))).mono ?_;rintro e' w7 ⟨rfl,hw7⟩;have HW4:=Lib.hid (HW3.out.trans (hw7.mono HW3.out.size));have HW4b:=Lib.hid (HW3b.out.trans (hw7.mono HW3b.out.size));clear hw7 p0 q0 p1 q1 p2 q2 p3 q3 p4 q4;have p0:=(HBk.out.below HW4b.out).cell 0 rfl;have q0:=(HXk.out.below HW4b.out).cell 0 rfl;have p1:=(HBk.out.below HW4b.out).cell 1 rfl;have q1:=(HXk.out.below HW4b.out).cell 1 rfl;have p2:=(HBk.out.below HW4b.out).cell 2 rfl;have q2:=(HXk.out.below HW4b.out).cell 2 rfl;have p3:=(HBk.out.below HW4b.out).cell 3 rfl;have q3:=(HXk.out.below HW4b.out).cell 3 rfl;have p4:=(HBk.out.below HW4b.out).cell 4 rfl;have q4:=(HXk.out.below HW4b.out).cell 4 rfl;cases hq3:eqC (C.s ax4) (C.s bx4)<;>go_wp2_with fail))
 all_goals
  go_ret
  first
  |exact g_.no (by intro e;simp at e;simp_all[F_,z_,w_]) HW0.out
  |exact g_.no (by intro e;simp at e;simp_all[F_,z_,w_]) HW1.out
  |exact g_.no (by intro e;simp at e;simp_all[F_,z_,w_]) HW2.out
  |exact g_.no (by intro e;simp at e;simp_all[F_,z_,w_]) HW3.out
  |exact g_.no (by intro e;simp at e;simp_all[F_,z_,w_]) HW4.out
  |exact g_.yes (by simp_all[F_,z_,w_]) HW4.out
theorem a9w:∀N,a8M 17 26 N
 |0=>fun x y cs ds w hN=>by cases x<;>simp at hN
 |N+1=>fun x y cs ds w hN h1 h2=>by
  have HI:=Lib.hid (a9w N)
  obtain⟨a0,a1,a2,a3,a4,a5,A,n,m,xs,rfl,rfl,_,_,_,hr⟩:=a0Q h1
  obtain⟨b0,b1,b2,b3,b4,b5,B,n',m',ys,rfl,rfl,_,_,_,hr'⟩:=a0Q h2
  obtain⟨l1,n1⟩:=H_ Tryz.underlying24 a8r (by decide) hr
  obtain⟨l2,n2⟩:=H_ Tryz.underlying24 a8r (by decide) hr'
  have H1:=Lib.hid hr
  have H2:=Lib.hid hr'
  have L1:=Lib.hid l1
  have L2:=Lib.hid l2
  have HN:Hid (∀x∈xs,SizeOf.sizeOf x<=N):=Lib.hid (fun x hx=>by
   have:=List.sizeOf_lt_of_mem hx
   simp at hN
   omega)
  clear h1 h2 hr hr' hN l1 l2
  go_enter Tryz.func17,Tryz.ntmps17
  go_upto_region 1 with(fail)
  refine a1B (K:=Code.wp _ _ _ _) fun w1 hB hX hw1 hz1=>?_
  have p0:=hB.cell 0 rfl
  have p1:=hB.cell 1 rfl
  have p2:=hB.cell 2 rfl
  have p3:=hB.cell 3 rfl
  have p4:=hB.cell 4 rfl
  have p5:=hB.cell 5 rfl
  have p6:=hB.cell 6 rfl
  have q0:=hX.cell 0 rfl
  have q1:=hX.cell 1 rfl
  have q2:=hX.cell 2 rfl
  have q3:=hX.cell 3 rfl
  have q4:=hX.cell 4 rfl
  have q5:=hX.cell 5 rfl
  have q6:=hX.cell 6 rfl
  have HW:=Lib.hid hw1
  have HBk:=Lib.hid hB
  have HXk:=Lib.hid hX
  clear hB hX hw1
  go_wp2_with fail
  all_goals(try(go_ret;exact g_.no (by intro e;simp at e;have:=L1.out;have:=L2.out;simp_all[F_]) HW.out))
  have hnn:n=n':=by
   have:=‹((n:Int) != (n':Int))=false›
   have h2:(n:Int)=(n':Int):=by simpa using this
   omega
  subst hnn
  have e1:=toList_inj ‹a4.toList=b4.toList›
  have e2:=toList_inj ‹a5.toList=b5.toList›
  subst e1 e2
  simp only[bne_self_eq_false]
  clear p0 p1 p2 p3 p4 p5 p6 q0 q1 q2 q3 q4 q5 q6
  go_loopw [5] (fun c wr=>∃k,LoopR w1 n k xs ys c wr) (fun c _=>n - (intOf c).toNat)
  case atStart=>exact⟨0,⟨Nat.zero_le _,rfl,a1l _ _,Below.refl _ _⟩⟩
  case round=>
   obtain⟨k,⟨hk,rfl,hs,hb⟩⟩:=hrel
   have HS:=Lib.hid hs
   have p6:=(HBk.out.below hb).cell 6 rfl
   have q6:=(HXk.out.below hb).cell 6 rfl
   clear hs
   by_cases hlt:k<n
   ·obtain⟨g,o,us,eq,hgl,hul,hcell,hkx,hrx⟩:=a0i Tryz.underlying24 a0H (by omega) H1.out hlt
    obtain⟨g',o',vs,eq',hgl',hul',hcell',hkx',hrx'⟩:=a0i Tryz.underlying24 a0H (by omega) H2.out hlt
    subst eq eq'
    have HX:=Lib.hid hrx
    have HY:=Lib.hid hrx'
    obtain⟨u0,u1,u2,u3,u4,u5,U,u6,u7,_,rfl,_⟩:=a0Q hrx
    obtain⟨v0,v1,v2,v3,v4,v5,V,v6,v7,_,rfl,_⟩:=a0Q hrx'
    have hwb:=HW.out.trans (hb.mono HW.out.size)
    have rr:∀j (u:Value),([.int .i64 u0,.int .i64 u1,.int .i64 u2,.int .i64 u3,.string u4,.string u5,.slice U u6 u7]:List Value)[j]? = some u->wr.cell? ⟨g,o+k*7+j,none⟩=some u:=fun j u hu=>(hwb.cell (by exact hgl)).trans (hcell j u hu)
    have ss:∀j (u:Value),([.int .i64 v0,.int .i64 v1,.int .i64 v2,.int .i64 v3,.string v4,.string v5,.slice V v6 v7]:List Value)[j]? = some u->wr.cell? ⟨g',o'+k*7+j,none⟩=some u:=fun j u hu=>(hwb.cell (by exact hgl')).trans (hcell' j u hu)
    have r0:=rr 0 _ rfl
    have r1:=rr 1 _ rfl
    have r2:=rr 2 _ rfl
    have r3:=rr 3 _ rfl
    have r4:=rr 4 _ rfl
    have r5:=rr 5 _ rfl
    have r6:=rr 6 _ rfl
    have s0:=ss 0 _ rfl
    have s1:=ss 1 _ rfl
    have s2:=ss 2 _ rfl
    have s3:=ss 3 _ rfl
    have s4:=ss 4 _ rfl
    have s5:=ss 5 _ rfl
    have s6:=ss 6 _ rfl
    simp only[Nat.add_zero] at r0 s0
    have c2:(k:Int)<(n:Int):=by omega
    have c3:(0:Int)<=(k:Int):=by omega
    have d1:decide ((k:Int)<(n:Int))=true:=decide_eq_true c2
    have HWB:=Lib.hid hwb
    clear rr ss hcell hcell' hul hul' hrx hrx' hwb
    go_upto_region 6 with(fail)
    go_still_tail 10,(by kernel_rfl)
    change wpList _ _ _ _ _ (wr.drewN 1)
    have HB3:=Lib.hid (hb.trans ((belowD wr 1).mono hb.size))
    have HX3:=Lib.hid (HX.out.kept (HWB.out.trans ((belowD wr 1).mono HWB.out.size)) (Nat.le_refl _))
    have HY3:=Lib.hid (HY.out.kept (HWB.out.trans ((belowD wr 1).mono HWB.out.size)) (Nat.le_refl _))
    clear r0 r1 r2 r3 r4 r5 r6 s0 s1 s2 s3 s4 s5 s6 p6 q6 hb HX HY HWB
    generalize wr.drewN 1=w3 at HB3 HX3 HY3 |-
    go_wp2_with fail
    refine(HI.out xs[k] ys[k] _ _ w3 (HN.out _ (List.getElem_mem _)) HX3.out HY3.out).mono ?_
    rintro e' w4 ⟨rfl,hw4⟩
    have HB4:=Lib.hid (HB3.out.trans (hw4.mono HB3.out.size))
    clear hw4 HX3 HY3 HB3
    cases hq:eqC xs[k] ys[k] with
    |true=>
     go_wp2_with fail
     go_roundw
     case rel=>exact⟨k+1,⟨by omega,by go_num,a1g HS.out _ _ hq,HB4.out⟩⟩
     case measure=>simp[intOf];omega
    |false=>
     go_wp2_with fail
     go_ret
     exact g_.no (by intro e;simp at e;have e3:=a1I hkx hkx' hq;simp_all[a0P]) (HW.out.trans (HB4.out.mono HW.out.size))
   ·obtain rfl:k=n:=by omega
    have d1:decide ((k:Int)<(k:Int))=false:=decide_eq_false (by omega)
    have HB:=Lib.hid (HW.out.trans (hb.mono HW.out.size))
    clear hb
    go_wp2_with fail
    go_ret
    exact g_.yes (by rw[Z_.1 (a1G HS.out L1.out L2.out)]) HB.out
theorem b8I(xs ys:List C)(a b:Option Addr)(n m n' m':Nat)(w:World)(h1:Rp Tryz.prog w 50 [.slice a n m] (.s xs))(h2:Rp Tryz.prog w 50 [.slice b n' m'] (.s ys)) :
  Calls Tryz.prog 159 #[.slice a n m,.slice b n' m'] w (g_ w (.s xs) (.s ys)):=by
 obtain⟨l1,n1⟩:=H_ Tryz.underlying50 (by kernel_rfl:Tryz.prog.bytesOf 3=8) (by decide) h1
 obtain⟨l2,n2⟩:=H_ Tryz.underlying50 (by kernel_rfl:Tryz.prog.bytesOf 3=8) (by decide) h2
 have H1:=Lib.hid h1
 have H2:=Lib.hid h2
 have L1:=Lib.hid l1
 have L2:=Lib.hid l2
 clear h1 h2 l1 l2
 by_cases hlen:n=n'
 ·subst hlen
  go_enter Tryz.func159,Tryz.ntmps159
  go_wp2_with fail
  go_loopw [5] (fun c wr=>∃k,LoopR w n k xs ys c wr) (fun c _=>n - (intOf c).toNat)
  case atStart=>exact⟨0,⟨Nat.zero_le _,rfl,a1l _ _,Below.refl _ _⟩⟩
  case round=>
   obtain⟨k,⟨hk,rfl,hs,hb⟩⟩:=hrel
   have HS:=Lib.hid hs
   clear hs
   by_cases hlt:k<n
   ·obtain⟨g,o,us,eq,hgl,hul,hcell,hkx,hrx⟩:=a0i Tryz.underlying50 a3e (by omega) H1.out hlt
    obtain⟨g',o',vs,eq',hgl',hul',hcell',hkx',hrx'⟩:=a0i Tryz.underlying50 a3e (by omega) H2.out hlt
    subst eq eq'
    have HX:=Lib.hid hrx
    have HY:=Lib.hid hrx'
    have hwb:=hb
    obtain⟨u0,rfl,hx0⟩:=hrx.a1N Tryz.underlying3
    obtain⟨v0,rfl,hy0⟩:=hrx'.a1N Tryz.underlying3
    have HXE:=Lib.hid hx0
    have HYE:=Lib.hid hy0
    have rr:∀j (u:Value),([.int .i64 u0]:List Value)[j]? = some u->wr.cell? ⟨g,o+k*1+j,none⟩=some u:=fun j u hu=>(hwb.cell (by exact hgl)).trans (hcell j u hu)
    have ss:∀j (u:Value),([.int .i64 v0]:List Value)[j]? = some u->wr.cell? ⟨g',o'+k*1+j,none⟩=some u:=fun j u hu=>(hwb.cell (by exact hgl')).trans (hcell' j u hu)
    have r0:=rr 0 _ rfl
    have s0:=ss 0 _ rfl
    simp only[Nat.add_zero,Nat.mul_one] at r0 s0
    have c2:(k:Int)<(n:Int):=by omega
    have c3:(0:Int)<=(k:Int):=by omega
    have d1:decide ((k:Int)<(n:Int))=true:=decide_eq_true c2
    have gl:g<wr.heap.size:=by have:=hwb.size;omega
    have gl':g'<wr.heap.size:=by have:=hwb.size;omega
    have HWB:=Lib.hid hwb
    have HB:=Lib.hid hb
    clear rr ss hcell hcell' hul hul' hrx hrx' hwb hb hx0 hy0
    by_cases hne:u0=v0
    case neg=>
     have hn:decide (u0=v0)=false:=decide_eq_false hne
     have hq:eqC xs[k] ys[k]=false:=by rw[HXE.out,HYE.out,w_];intro e2;simp at e2;simp_all
     go_upto_region 6 with(fail)
     go_quiet (fail)
     refine a0q (K:=Exit.then _ _ _ _) fun w4 hw4 hz4=>?_
     have HB4:=Lib.hid (HB.out.trans (hw4.mono HB.out.size))
     clear hw4 HB HWB r0 s0
     go_wp2_with fail
     go_ret
     exact g_.no (by intro e;simp at e;have e3:=a1I hkx hkx' hq;simp_all[F_,z_,w_,a0P]) (HB4.out)
    subst hne
    have hq:eqC xs[k] ys[k]=true:=by rw[HXE.out,HYE.out];exact a3h _
    go_upto_region 6 with(fail)
    go_quiet (fail)
    refine a0q (K:=Exit.then _ _ _ _) fun w4 hw4 hz4=>?_
    have HB4:=Lib.hid (HB.out.trans (hw4.mono HB.out.size))
    clear hw4 HB HWB r0 s0
    go_wp2_with fail
    go_roundw
    case rel=>exact⟨k+1,⟨by omega,by go_num,a1g HS.out _ _ hq,HB4.out⟩⟩
    case measure=>simp[intOf];omega
   ·obtain rfl:k=n:=by omega
    have d1:decide ((k:Int)<(k:Int))=false:=decide_eq_false (by omega)
    have HE1:=Lib.hid (Z_.1 (a1G HS.out L1.out L2.out))
    go_wp2_with fail
    go_ret
    exact g_.yes (by rw[HE1.out]) (hb)
 ·have d0:decide ((n:Int)=(n':Int))=false:=decide_eq_false (by omega)
  go_enter Tryz.func159,Tryz.ntmps159
  go_wp2_with fail
  go_ret
  exact g_.no (fun e=>by injection e with e;exact hlen (L1.out.symm.trans ((congrArg List.length e).trans L2.out))) (Below.refl _ _)
theorem b9t(xs ys:List C)(a b:Option Addr)(n m n' m':Nat)(w:World)(h1:Rp Tryz.prog w 24 [.slice a n m] (.s xs))(h2:Rp Tryz.prog w 24 [.slice b n' m'] (.s ys)) :
  Calls Tryz.prog 158 #[.slice a n m,.slice b n' m'] w (g_ w (.s xs) (.s ys)):=by
 obtain⟨l1,n1⟩:=H_ Tryz.underlying24 (by kernel_rfl:Tryz.prog.bytesOf 26=88) (by decide) h1
 obtain⟨l2,n2⟩:=H_ Tryz.underlying24 (by kernel_rfl:Tryz.prog.bytesOf 26=88) (by decide) h2
 have H1:=Lib.hid h1
 have H2:=Lib.hid h2
 have L1:=Lib.hid l1
 have L2:=Lib.hid l2
 clear h1 h2 l1 l2
 by_cases hlen:n=n'
 ·subst hlen
  go_enter Tryz.func158,Tryz.ntmps158
  go_wp2_with fail
  go_loopw [5] (fun c wr=>∃k,LoopR w n k xs ys c wr) (fun c _=>n - (intOf c).toNat)
  case atStart=>exact⟨0,⟨Nat.zero_le _,rfl,a1l _ _,Below.refl _ _⟩⟩
  case round=>
   obtain⟨k,⟨hk,rfl,hs,hb⟩⟩:=hrel
   have HS:=Lib.hid hs
   clear hs
   by_cases hlt:k<n
   ·obtain⟨g,o,us,eq,hgl,hul,hcell,hkx,hrx⟩:=a0i Tryz.underlying24 a0H (by omega) H1.out hlt
    obtain⟨g',o',vs,eq',hgl',hul',hcell',hkx',hrx'⟩:=a0i Tryz.underlying24 a0H (by omega) H2.out hlt
    subst eq eq'
    have HX:=Lib.hid hrx
    have HY:=Lib.hid hrx'
    have hwb:=hb
    obtain⟨ui0,ui1,ui2_0,ui2_1,us2_2,us3,uq4,un4,um4,ux4,rfl,hx0,_,_,_,uh3⟩:=a0Q hrx
    have Huh3:=Lib.hid uh3
    obtain⟨vi0,vi1,vi2_0,vi2_1,vs2_2,vs3,vq4,vn4,vm4,vx4,rfl,hy0,_,_,_,vh3⟩:=a0Q hrx'
    have Hvh3:=Lib.hid vh3
    have HXE:=Lib.hid hx0
    have HYE:=Lib.hid hy0
    have rr:∀j (u:Value),([.int .i64 ui0,.int .i64 ui1,.int .i64 ui2_0,.int .i64 ui2_1,.string us2_2,.string us3,.slice uq4 un4 um4]:List Value)[j]? = some u->wr.cell? ⟨g,o+k*7+j,none⟩=some u:=fun j u hu=>(hwb.cell (by exact hgl)).trans (hcell j u hu)
    have ss:∀j (u:Value),([.int .i64 vi0,.int .i64 vi1,.int .i64 vi2_0,.int .i64 vi2_1,.string vs2_2,.string vs3,.slice vq4 vn4 vm4]:List Value)[j]? = some u->wr.cell? ⟨g',o'+k*7+j,none⟩=some u:=fun j u hu=>(hwb.cell (by exact hgl')).trans (hcell' j u hu)
    have r0:=rr 0 _ rfl
    have s0:=ss 0 _ rfl
    have r1:=rr 1 _ rfl
    have s1:=ss 1 _ rfl
    have r2:=rr 2 _ rfl
    have s2:=ss 2 _ rfl
    have r3:=rr 3 _ rfl
    have s3:=ss 3 _ rfl
    have r4:=rr 4 _ rfl
    have s4:=ss 4 _ rfl
    have r5:=rr 5 _ rfl
    have s5:=ss 5 _ rfl
    have r6:=rr 6 _ rfl
    have s6:=ss 6 _ rfl
    simp only[Nat.add_zero] at r0 s0
    have c2:(k:Int)<(n:Int):=by omega
    have c3:(0:Int)<=(k:Int):=by omega
    have d1:decide ((k:Int)<(n:Int))=true:=decide_eq_true c2
    have gl:g<wr.heap.size:=by have:=hwb.size;omega
    have gl':g'<wr.heap.size:=by have:=hwb.size;omega
    have HWB:=Lib.hid hwb
    have HB:=Lib.hid hb
    clear rr ss hcell hcell' hul hul' hrx hrx' hwb hb uh3 vh3
    go_upto_region 6 with(fail)
    go_still_tail 8,(by kernel_rfl)
    change wpList _ _ _ _ _ (wr.drewN 1)
    have HB3:=Lib.hid (HB.out.trans ((belowD wr 1).mono HB.out.size))
    have HW3:=Lib.hid (HWB.out.trans ((belowD wr 1).mono HWB.out.size))
    clear HB HWB r0 s0 r1 s1 r2 s2 r3 s3 r4 s4 r5 s5 r6 s6
    generalize wr.drewN 1=w3 at HB3 HW3 |-
    go_wp2_with fail
    refine(a9w _ xs[k] ys[k] _ _ _ (Nat.le_refl _) (HX.out.kept HW3.out (Nat.le_refl _)) (HY.out.kept HW3.out (Nat.le_refl _))).mono ?_
    rintro e' w4 ⟨rfl,hw4⟩
    have HB4:=Lib.hid (HB3.out.trans (hw4.mono HB3.out.size))
    clear hw4 HB3 HW3
    cases hq:eqC xs[k] ys[k] with
    |true=>
     go_wp2_with fail
     go_roundw
     case rel=>exact⟨k+1,⟨by omega,by go_num,a1g HS.out _ _ hq,HB4.out⟩⟩
     case measure=>simp[intOf];omega
    |false=>
     go_wp2_with fail
     go_ret
     exact g_.no (by intro e;simp at e;have e3:=a1I hkx hkx' hq;simp_all[F_,z_,w_,a0P]) (HB4.out)
   ·obtain rfl:k=n:=by omega
    have d1:decide ((k:Int)<(k:Int))=false:=decide_eq_false (by omega)
    have HE1:=Lib.hid (Z_.1 (a1G HS.out L1.out L2.out))
    go_wp2_with fail
    go_ret
    exact g_.yes (by rw[HE1.out]) (hb)
 ·have d0:decide ((n:Int)=(n':Int))=false:=decide_eq_false (by omega)
  go_enter Tryz.func158,Tryz.ntmps158
  go_wp2_with fail
  go_ret
  exact g_.no (fun e=>by injection e with e;exact hlen (L1.out.symm.trans ((congrArg List.length e).trans L2.out))) (Below.refl _ _)
theorem b4u(N:Nat):a8M 91 53 N:=fun x y cs ds w hN h1 h2=>by
 obtain⟨as0,aq1,an1,am1,ax1,aq2,an2,am2,ax2,aq3,an3,am3,ax3,aq4,an4,am4,ax4,rfl,rfl,_,_,ac2,_,ac4,_,ac6,_,ac8⟩:=a2z h1
 obtain⟨bs0,bq1,bn1,bm1,bx1,bq2,bn2,bm2,bx2,bq3,bn3,bm3,bx3,bq4,bn4,bm4,bx4,rfl,rfl,_,_,bc2,_,bc4,_,bc6,_,bc8⟩:=a2z h2
 have Hac2:=Lib.hid ac2
 have Hac4:=Lib.hid ac4
 have Hac6:=Lib.hid ac6
 have Hac8:=Lib.hid ac8
 have Hbc2:=Lib.hid bc2
 have Hbc4:=Lib.hid bc4
 have Hbc6:=Lib.hid bc6
 have Hbc8:=Lib.hid bc8
 obtain⟨la1,na1⟩:=H_ Tryz.underlying49 (by kernel_rfl:Tryz.prog.bytesOf 55=32) (by decide) ac2
 have La1:=Lib.hid la1
 obtain⟨lb1,nb1⟩:=H_ Tryz.underlying49 (by kernel_rfl:Tryz.prog.bytesOf 55=32) (by decide) bc2
 have Lb1:=Lib.hid lb1
 obtain⟨la2,na2⟩:=H_ Tryz.underlying50 (by kernel_rfl:Tryz.prog.bytesOf 3=8) (by decide) ac4
 have La2:=Lib.hid la2
 obtain⟨lb2,nb2⟩:=H_ Tryz.underlying50 (by kernel_rfl:Tryz.prog.bytesOf 3=8) (by decide) bc4
 have Lb2:=Lib.hid lb2
 obtain⟨la3,na3⟩:=H_ Tryz.underlying51 (by kernel_rfl:Tryz.prog.bytesOf 122=40) (by decide) ac6
 have La3:=Lib.hid la3
 obtain⟨lb3,nb3⟩:=H_ Tryz.underlying51 (by kernel_rfl:Tryz.prog.bytesOf 122=40) (by decide) bc6
 have Lb3:=Lib.hid lb3
 obtain⟨la4,na4⟩:=H_ Tryz.underlying24 (by kernel_rfl:Tryz.prog.bytesOf 26=88) (by decide) ac8
 have La4:=Lib.hid la4
 obtain⟨lb4,nb4⟩:=H_ Tryz.underlying24 (by kernel_rfl:Tryz.prog.bytesOf 26=88) (by decide) bc8
 have Lb4:=Lib.hid lb4
 clear h1 h2 hN ac2 ac4 ac6 ac8 bc2 bc4 bc6 bc8 la1 lb1 la2 lb2 la3 lb3 la4 lb4 na2 nb2 na4 nb4
 go_enter Tryz.func91,Tryz.ntmps91
 go_upto_region 1 with(fail)
 refine a1B (K:=Code.wp _ _ _ _) fun w2 hB hX hw1 hz1=>?_
 have HW0:=Lib.hid hw1
 have HBk:=Lib.hid hB
 have HXk:=Lib.hid hX
 have hz3:w.heap.size+2<=w2.heap.size:=by omega
 clear hw1 hB hX hz1
 have p0:=(HBk.out).cell 0 rfl
 have q0:=(HXk.out).cell 0 rfl
 have p1:=(HBk.out).cell 1 rfl
 have q1:=(HXk.out).cell 1 rfl
 have p2:=(HBk.out).cell 2 rfl
 have q2:=(HXk.out).cell 2 rfl
 have p3:=(HBk.out).cell 3 rfl
 have q3:=(HXk.out).cell 3 rfl
 have p4:=(HBk.out).cell 4 rfl
 have q4:=(HXk.out).cell 4 rfl
 go_wp2_with fail
 all_goals(try(refine(b8I ax2 bx2 _ _ _ _ _ _ w2 (Hac4.out.kept HW0.out (Nat.le_refl _)) (Hbc4.out.kept HW0.out (Nat.le_refl _))).mono ?_;rintro e' w14 ⟨rfl,hw14⟩;have HW1:=Lib.hid (HW0.out.trans (hw14.mono HW0.out.size));have HW1b:=Lib.hid hw14;have hz4:w.heap.size+2<=w14.heap.size:=(by have:=hw14.size;omega);clear hw14 hz3 p0 q0 p1 q1 p2 q2 p3 q3 p4 q4;have p1:=(HBk.out.below HW1b.out).cell 1 rfl;have q1:=(HXk.out.below HW1b.out).cell 1 rfl;have p3:=(HBk.out.below HW1b.out).cell 3 rfl;have q3:=(HXk.out.below HW1b.out).cell 3 rfl;have p4:=(HBk.out.below HW1b.out).cell 4 rfl;have q4:=(HXk.out.below HW1b.out).cell 4 rfl;cases hq0:eqC (C.s ax2) (C.s bx2)<;>go_wp2_with fail))
 all_goals(try(refine(b9t ax4 bx4 _ _ _ _ _ _ w14 (Hac8.out.kept HW1.out (Nat.le_refl _)) (Hbc8.out.kept HW1.out (Nat.le_refl _))).mono ?_;rintro e' w15 ⟨rfl,hw15⟩;have HW2:=Lib.hid (HW1.out.trans (hw15.mono HW1.out.size));have HW2b:=Lib.hid (HW1b.out.trans (hw15.mono HW1b.out.size));have hz5:w.heap.size+2<=w15.heap.size:=(by have:=hw15.size;omega);clear hw15 hz4 p1 q1 p3 q3 p4 q4;have p1:=(HBk.out.below HW2b.out).cell 1 rfl;have q1:=(HXk.out.below HW2b.out).cell 1 rfl;have p3:=(HBk.out.below HW2b.out).cell 3 rfl;have q3:=(HXk.out.below HW2b.out).cell 3 rfl;cases hq1:eqC (C.s ax4) (C.s bx4)<;>go_wp2_with fail))
 all_goals(try(go_ret;first|exact g_.no (by intro e;simp at e;have:=La1.out;have:=Lb1.out;have:=La3.out;have:=Lb3.out;simp_all[F_,z_,w_,a0P]) HW0.out|exact g_.no (by intro e;simp at e;have:=La1.out;have:=Lb1.out;have:=La3.out;have:=Lb3.out;simp_all[F_,z_,w_,a0P]) HW1.out|exact g_.no (by intro e;simp at e;have:=La1.out;have:=Lb1.out;have:=La3.out;have:=Lb3.out;simp_all[F_,z_,w_,a0P]) HW2.out))
 obtain rfl:as0=bs0:=by first|exact toList_inj ‹as0.toList=bs0.toList› | exact toList_inj (by have h:=‹(as0.toList != bs0.toList)=false›;simpa using h)
 obtain rfl:an1=bn1:=by first|(have h:=‹(an1:Int)=(bn1:Int)›;omega)|(have h:=‹((an1:Int) != (bn1:Int))=false›;have h2:(an1:Int)=(bn1:Int):=(by simpa using h);omega)
 obtain rfl:an3=bn3:=by first|(have h:=‹(an3:Int)=(bn3:Int)›;omega)|(have h:=‹((an3:Int) != (bn3:Int))=false›;have h2:(an3:Int)=(bn3:Int):=(by simpa using h);omega)
 try simp only[bne_self_eq_false]
 clear p1 q1 p3 q3
 have hqe0:=z_.1 hq0
 have hqe1:=z_.1 hq1
 go_loopw [5] (fun c wr=>∃k,LoopR w15 an1 k ax1 bx1 c wr) (fun c _=>an1 - (intOf c).toNat)
 case atStart=>exact⟨0,⟨Nat.zero_le _,rfl,a1l _ _,Below.refl _ _⟩⟩
 case round=>
  obtain⟨k,⟨hk,rfl,hs,hb⟩⟩:=hrel
  have HS:=Lib.hid hs
  have p1:=((HBk.out.below HW2b.out).below hb).cell 1 rfl
  have q1:=((HXk.out.below HW2b.out).below hb).cell 1 rfl
  clear hs
  by_cases hlt:k<an1
  ·obtain⟨g,o,us,eq,hgl,hul,hcell,hkx,hrx⟩:=a0i Tryz.underlying49 a0L (by omega) Hac2.out hlt
   obtain⟨g',o',vs,eq',hgl',hul',hcell',hkx',hrx'⟩:=a0i Tryz.underlying49 a0L (by omega) Hbc2.out hlt
   subst eq eq'
   have HX:=Lib.hid hrx
   have HY:=Lib.hid hrx'
   have hwb:=HW2.out.trans (hb.mono HW2.out.size)
   obtain⟨us0,ui1,ub2,rfl,hx0,_⟩:=a1y hrx
   obtain⟨vs0,vi1,vb2,rfl,hy0,_⟩:=a1y hrx'
   have HXE:=Lib.hid hx0
   have HYE:=Lib.hid hy0
   have rr:∀j (u:Value),([.string us0,.int .i64 ui1,.bool ub2]:List Value)[j]? = some u->wr.cell? ⟨g,o+k*3+j,none⟩=some u:=fun j u hu=>(hwb.cell (by exact hgl)).trans (hcell j u hu)
   have ss:∀j (u:Value),([.string vs0,.int .i64 vi1,.bool vb2]:List Value)[j]? = some u->wr.cell? ⟨g',o'+k*3+j,none⟩=some u:=fun j u hu=>(hwb.cell (by exact hgl')).trans (hcell' j u hu)
   have r0:=rr 0 _ rfl
   have s0:=ss 0 _ rfl
   have r1:=rr 1 _ rfl
   have s1:=ss 1 _ rfl
   have r2:=rr 2 _ rfl
   have s2:=ss 2 _ rfl
   simp only[Nat.add_zero] at r0 s0
   have c2:(k:Int)<(an1:Int):=by omega
   have c3:(0:Int)<=(k:Int):=by omega
   have d1:decide ((k:Int)<(an1:Int))=true:=decide_eq_true c2
   have gl:g<wr.heap.size:=by have:=hwb.size;omega
   have gl':g'<wr.heap.size:=by have:=hwb.size;omega
   have HWB:=Lib.hid hwb
   have HB:=Lib.hid hb
   clear rr ss hcell hcell' hul hul' hrx hrx' hwb hb hx0 hy0
   by_cases hne:us0=vs0
   case neg=>
    have hn:¬us0.toList=vs0.toList:=fun e=>hne (toList_inj e)
    have hm:(us0.toList==vs0.toList)=false:=beq_eq_false_iff_ne.2 hn
    have hq:eqC ax1[k] bx1[k]=false:=by rw[HXE.out,HYE.out,w_];intro e2;simp at e2;simp_all
    go_upto_region 6 with(fail)
    go_quiet (fail)
    refine a0q (K:=Exit.then _ _ _ _) fun w4 hw4 hz4=>?_
    have HB4:=Lib.hid (HB.out.trans (hw4.mono HB.out.size))
    clear hw4 HB HWB r0 s0 r1 s1 r2 s2 p1 q1
    go_wp2_with fail
    go_ret
    exact g_.no (by intro e;simp at e;have e3:=a1I hkx hkx' hq;simp_all[F_,z_,w_,a0P]) (HW2.out.trans (HB4.out.mono HW2.out.size))
   subst hne
   by_cases hne:ui1=vi1
   case neg=>
    have hn:decide (ui1=vi1)=false:=decide_eq_false hne
    have hq:eqC ax1[k] bx1[k]=false:=by rw[HXE.out,HYE.out,w_];intro e2;simp at e2;simp_all
    go_upto_region 6 with(fail)
    go_quiet (fail)
    refine a0q (K:=Exit.then _ _ _ _) fun w4 hw4 hz4=>?_
    have HB4:=Lib.hid (HB.out.trans (hw4.mono HB.out.size))
    clear hw4 HB HWB r0 s0 r1 s1 r2 s2 p1 q1
    go_wp2_with fail
    go_ret
    exact g_.no (by intro e;simp at e;have e3:=a1I hkx hkx' hq;simp_all[F_,z_,w_,a0P]) (HW2.out.trans (HB4.out.mono HW2.out.size))
   subst hne
   by_cases hne:ub2=vb2
   case neg=>
    have hn:(ub2==vb2)=false:=beq_eq_false_iff_ne.2 hne
    have hq:eqC ax1[k] bx1[k]=false:=by rw[HXE.out,HYE.out,w_];intro e2;simp at e2;simp_all
    go_upto_region 6 with(fail)
    go_quiet (fail)
    refine a0q (K:=Exit.then _ _ _ _) fun w4 hw4 hz4=>?_
    have HB4:=Lib.hid (HB.out.trans (hw4.mono HB.out.size))
    clear hw4 HB HWB r0 s0 r1 s1 r2 s2 p1 q1
    go_wp2_with fail
    go_ret
    exact g_.no (by intro e;simp at e;have e3:=a1I hkx hkx' hq;simp_all[F_,z_,w_,a0P]) (HW2.out.trans (HB4.out.mono HW2.out.size))
   subst hne
   have hq:eqC ax1[k] bx1[k]=true:=by rw[HXE.out,HYE.out];exact a3h _
   go_upto_region 6 with(fail)
   go_quiet (fail)
   refine a0q (K:=Exit.then _ _ _ _) fun w4 hw4 hz4=>?_
   have HB4:=Lib.hid (HB.out.trans (hw4.mono HB.out.size))
   clear hw4 HB HWB r0 s0 r1 s1 r2 s2 p1 q1
   go_wp2_with fail
   go_roundw
   case rel=>exact⟨k+1,⟨by omega,by go_num,a1g HS.out _ _ hq,HB4.out⟩⟩
   case measure=>simp[intOf];omega
  ·obtain rfl:k=an1:=by omega
   have d1:decide ((k:Int)<(k:Int))=false:=decide_eq_false (by omega)
   have HE1:=Lib.hid (Z_.1 (a1G HS.out La1.out Lb1.out))
   have HWL0:=Lib.hid (HW2.out.trans (hb.mono HW2.out.size))
   have HWL0b:=Lib.hid (HW2b.out.trans (hb.mono HW2b.out.size))
   have hzl0:w.heap.size+2<=wr.heap.size:=by have:=hb.size;omega
   clear hb
   go_wp2_with fail
   clear p1 q1 d1
   generalize hwq:(wr:World)=w30 at HWL0 HWL0b hzl0 |-
   clear hwq
   go_loopw [6] (fun c wr=>∃k,LoopR w30 an3 k ax3 bx3 c wr) (fun c _=>an3 - (intOf c).toNat)
   case atStart=>exact⟨0,⟨Nat.zero_le _,rfl,a1l _ _,Below.refl _ _⟩⟩
   case round=>
    obtain⟨k,⟨hk,rfl,hs,hb⟩⟩:=hrel
    have HS:=Lib.hid hs
    have p3:=((HBk.out.below HWL0b.out).below hb).cell 3 rfl
    have q3:=((HXk.out.below HWL0b.out).below hb).cell 3 rfl
    clear hs
    by_cases hlt:k<an3
    ·obtain⟨g,o,us,eq,hgl,hul,hcell,hkx,hrx⟩:=a0i Tryz.underlying51 a0g (by omega) Hac6.out hlt
     obtain⟨g',o',vs,eq',hgl',hul',hcell',hkx',hrx'⟩:=a0i Tryz.underlying51 a0g (by omega) Hbc6.out hlt
     subst eq eq'
     have HX:=Lib.hid hrx
     have HY:=Lib.hid hrx'
     have hwb:=HWL0.out.trans (hb.mono HWL0.out.size)
     obtain⟨uq0,un0,um0,ux0,us1,rfl,hx0,_,uh1,_⟩:=a0A hrx
     have Huh1:=Lib.hid uh1
     obtain⟨vq0,vn0,vm0,vx0,vs1,rfl,hy0,_,vh1,_⟩:=a0A hrx'
     have Hvh1:=Lib.hid vh1
     have HXE:=Lib.hid hx0
     have HYE:=Lib.hid hy0
     have rr:∀j (u:Value),([.slice uq0 un0 um0,.string us1]:List Value)[j]? = some u->wr.cell? ⟨g,o+k*2+j,none⟩=some u:=fun j u hu=>(hwb.cell (by exact hgl)).trans (hcell j u hu)
     have ss:∀j (u:Value),([.slice vq0 vn0 vm0,.string vs1]:List Value)[j]? = some u->wr.cell? ⟨g',o'+k*2+j,none⟩=some u:=fun j u hu=>(hwb.cell (by exact hgl')).trans (hcell' j u hu)
     have r0:=rr 0 _ rfl
     have s0:=ss 0 _ rfl
     have r1:=rr 1 _ rfl
     have s1:=ss 1 _ rfl
     simp only[Nat.add_zero] at r0 s0
     have c2:(k:Int)<(an3:Int):=by omega
     have c3:(0:Int)<=(k:Int):=by omega
     have d1:decide ((k:Int)<(an3:Int))=true:=decide_eq_true c2
     have gl:g<wr.heap.size:=by have:=hwb.size;omega
     have gl':g'<wr.heap.size:=by have:=hwb.size;omega
     have HWB:=Lib.hid hwb
     have HB:=Lib.hid hb
     clear rr ss hcell hcell' hul hul' hrx hrx' hwb hb hx0 hy0 uh1 vh1
     by_cases hne:us1=vs1
     case neg=>
      have hn:¬us1.toList=vs1.toList:=fun e=>hne (toList_inj e)
      have hm:(us1.toList==vs1.toList)=false:=beq_eq_false_iff_ne.2 hn
      have hq:eqC ax3[k] bx3[k]=false:=by rw[HXE.out,HYE.out,w_];intro e2;simp at e2;simp_all
      go_upto_region 11 with(fail)
      go_quiet (fail)
      refine a0q (K:=Exit.then _ _ _ _) fun w4 hw4 hz4=>?_
      have HB4:=Lib.hid (HB.out.trans (hw4.mono HB.out.size))
      clear hw4 HB HWB r0 s0 r1 s1 p3 q3
      go_wp2_with fail
      go_ret
      exact g_.no (by intro e;simp at e;have e3:=a1I hkx hkx' hq;simp_all[F_,z_,w_,a0P]) (HWL0.out.trans (HB4.out.mono HWL0.out.size))
     subst hne
     go_upto_region 11 with(fail)
     go_still_tail 26,(by kernel_rfl)
     change wpList _ _ _ _ _ (wr.drewN 1)
     have HB3:=Lib.hid (HB.out.trans ((belowD wr 1).mono HB.out.size))
     have HW3:=Lib.hid (HWB.out.trans ((belowD wr 1).mono HWB.out.size))
     clear HB HWB r0 s0 r1 s1 p3 q3
     generalize wr.drewN 1=w3 at HB3 HW3 |-
     go_wp2_with fail
     refine(b8I ux0 vx0 _ _ _ _ _ _ _ (Huh1.out.kept HW3.out (Nat.le_refl _)) (Hvh1.out.kept HW3.out (Nat.le_refl _))).mono ?_
     rintro e' w4 ⟨rfl,hw4⟩
     have HB4:=Lib.hid (HB3.out.trans (hw4.mono HB3.out.size))
     clear hw4 HB3 HW3
     cases hqi:eqC (C.s ux0) (C.s vx0) with
     |true=>
      have hqe:=z_.1 hqi
      have hq:eqC ax3[k] bx3[k]=true:=by rw[HXE.out,HYE.out,hqe,a3h]
      go_wp2_with fail
      go_roundw
      case rel=>exact⟨k+1,⟨by omega,by go_num,a1g HS.out _ _ hq,HB4.out⟩⟩
      case measure=>simp[intOf];omega
     |false=>
      have hqe:=w_.1 hqi
      have hq:eqC ax3[k] bx3[k]=false:=by rw[HXE.out,HYE.out,w_];intro e2;simp at e2;simp_all
      go_wp2_with fail
      go_ret
      exact g_.no (by intro e;simp at e;have e3:=a1I hkx hkx' hq;simp_all[F_,z_,w_,a0P]) (HWL0.out.trans (HB4.out.mono HWL0.out.size))
    ·obtain rfl:k=an3:=by omega
     have d1:decide ((k:Int)<(k:Int))=false:=decide_eq_false (by omega)
     have HE2:=Lib.hid (Z_.1 (a1G HS.out La3.out Lb3.out))
     have HB:=Lib.hid (HWL0.out.trans (hb.mono HWL0.out.size))
     clear hb
     go_wp2_with fail
     go_ret
     exact g_.yes (by have k1:=HE1.out;have k2:=HE2.out;simp_all[F_,z_,w_,a0P]) HB.out
end Go.Proofs.YtlimlmjljjmcpaaGreatDoor.Ps
