import Derived.Test.YtlimlmjljjmcpaaGreatDoorPxE
import Derived.Test.YtlimlmjljjmcpaaGreatDoorPsAwk
set_option maxHeartbeats 20000000
set_option maxRecDepth 100000
namespace Go.Proofs.YtlimlmjljjmcpaaGreatDoor.Px
open Go Go.RowKit Go.Proofs.YtlimlmjljjmcpaaGreatDoor.Ps
set_option linter.unusedVariables false
set_option linter.unusedSimpArgs false
theorem b7s{l:List X}{k:Nat}(h:k<l.length)(h1:b0i (l.take k)=true)(h2:rOk l[k]=true):b0i (l.take (k+1))=true:=by
 rw[a6J] at h1 |-
 rw[List.take_succ_eq_append_getElem h,List.all_append,h1,List.all_cons,h2]
 rfl
theorem b8U{l:List X}{k:Nat}(h:k<l.length)(h2:rOk l[k]=false):b0i l=false:=by
 rw[a6J]
 exact Bool.eq_false_iff.2 fun hh=>by
  have:=List.all_eq_true.1 hh _ (List.getElem_mem h)
  rw[h2] at this
  cases this
theorem c0Q(op int vk vi:Int)(vs nm:S)(l:List X):rOk (.mk op int vk vi vs nm l)=(ownB op int vk vi vs nm l&&b0i l):=by rw[rOk]
theorem a8f(N:Nat)(HI:∀(x:X) (cs:List Value) (w:World),nodes x<=N->D_ x->XR w x cs->Calls Tryz.prog 29 #[.agg cs.toArray] w (Ret w (.bool (rOk x))))(op int vk vi:Int)(vs nm:S)(l:List X)(cs:List Value)(w:World)(hn:j_ l<=N)(hsh:vs.length<4294967281/\nm.length<4294967281)(hshl:a0M l)(h:XR w (.mk op int vk vi vs nm l) cs) :
  Calls Tryz.prog 29 #[.agg cs.toArray] w (Ret w (.bool (rOk (.mk op int vk vi vs nm l)))):=by
 have HI:=h_ HI
 have HSH:=h_ hshl
 have HPD:=h_ (c0Q op int vk vi vs nm l)
 have HOW:=h_ fun(w':World) (hw':Below w.heap.size w w')=>b9S op int vk vi vs nm l cs w' hsh hshl (h.kept hw' (Nat.le_refl _))
 obtain⟨a,m,rfl,hl,hvs,hnm,hlen⟩:=h.lits
 have HL:=h_ hl
 clear h hl hshl hsh
 generalize ownB op int vk vi vs nm l=OB at HPD HOW
 generalize rOk (.mk op int vk vi vs nm l)=ANS at HPD |-
 go_enter Tryz.func29,Tryz.ntmps29
 go_upto_region 1 with(fail)
 refine nA fun w1 hB hw1 hz1=>?_
 have HW:=h_ hw1
 have HBk:=h_ hB
 obtain⟨p0,p1,p2,p3,p4,p5,p6⟩:=hB.c7
 clear hB hw1
 go_wp2_with fail
 refine(HOW.out w1 HW.out).mono ?_
 rintro e w2 ⟨rfl,hw2⟩
 have HB2:=h_ (HBk.out.below hw2)
 have HW2:=t_ HW hw2
 clear hw2 p0 p1 p2 p3 p4 p5 p6 HBk HW HOW
 cases OB with
 |false=>
  go_wp2_with fail
  go_ret
  exact⟨by rw[HPD.out];rfl,HW2.out⟩
 |true=>
  have HPK:Hid (ANS=b0i l):=h_ (by rw[HPD.out];rfl)
  clear HPD
  go_upto_region 4 with(fail)
  go_loopw [3] (fun i wr=>∃k:Nat,k<=l.length/\i=.int .i64 (k:Int)/\b0i (l.take k)=true/\Below w2.heap.size w2 wr) (fun i _=>l.length - (intOf i).toNat)
  case atStart=>exact⟨0,Nat.zero_le _,rfl,rfl,Below.refl _ _⟩
  case round=>
   obtain⟨k,hk,rfl,ht,hb⟩:=hrel
   have HT:=h_ ht
   have HB:=h_ hb
   have HWb:=t_ HW2 hb
   have p6:=(HB2.out.below hb).cell 6 rfl
   clear ht hb
   by_cases hlt:k<l.length
   ·obtain⟨g,o,us,eq,hec,hkx,hrx⟩:=HL.out.ec hlt
    subst eq
    have HX:Hid (XR w l[k] us):=h_ hrx
    obtain⟨eop,eint,evk,evi,evs,enm,el,ee⟩:∃eop eint evk evi evs enm el,l[k]=X.mk eop eint evk evi evs enm el:=by
     cases l[k]
     exact⟨_,_,_,_,_,_,_,rfl⟩
    have hrx2:XR w (X.mk eop eint evk evi evs enm el) us:=ee ▸ hrx
    obtain⟨ea,em,rfl,_⟩:=hrx2.lits
    have r0:=hec.at0 HWb.out (u:=_) rfl
    have r1:=hec.at_ HWb.out (j:=1) rfl
    have r2:=hec.at_ HWb.out (j:=2) rfl
    have r3:=hec.at_ HWb.out (j:=3) rfl
    have r4:=hec.at_ HWb.out (j:=4) rfl
    have r5:=hec.at_ HWb.out (j:=5) rfl
    have r6:=hec.at_ HWb.out (j:=6) rfl
    have gl:g<wr.heap.size:=by have:=HWb.out.size;have:=hec.1;omega
    have hle:=M_ (List.getElem_mem (l:=l) hlt)
    have hsx:=a1V HSH.out (List.getElem_mem (l:=l) hlt)
    have HC:=h_ (HI.out l[k] _ wr (by omega) hsx (HX.out.kept HWb.out (Nat.le_refl _)))
    have c2:(k:Int)<(l.length:Int):=by omega
    have c3:(0:Int)<=(k:Int):=by omega
    have HF0:=h_ (fun h=>b8U (l:=l) (k:=k) hlt h)
    have HF1:=h_ (fun h=>b7s (l:=l) (k:=k) hlt HT.out h)
    clear hec hrx hrx2 ee HX hsx hle
    generalize rOk l[k]=b at HC HF0 HF1
    go_wp2_with fail
    refine HC.out.mono ?_
    rintro e' w4 ⟨rfl,hw4⟩
    have HB4:=t_ HB hw4
    have HW4:=t_ HWb hw4
    clear hw4
    cases b with
    |false=>
     have HFF:=h_ (HF0.out rfl)
     go_wp2_with fail
     go_ret
     exact⟨by rw[HPK.out,HFF.out];rfl,HW4.out⟩
    |true=>
     have HFF:=h_ (HF1.out rfl)
     go_wp2_with fail
     go_roundw
     case rel=>exact⟨k+1,by omega,by go_num,HFF.out,HB4.out⟩
     case measure=>simp[intOf];omega
   ·obtain rfl:k=l.length:=by omega
    have HA:Hid (ANS=true):=h_ (by rw[HPK.out];have:=HT.out;rwa [List.take_length] at this)
    have d1:decide ((l.length:Int)<(l.length:Int))=false:=decide_eq_false (by omega)
    clear HT
    go_wp2_with fail
    go_ret
    exact⟨by rw[HA.out];rfl,HWb.out⟩
theorem a4b:∀(N:Nat) (x:X) (cs:List Value) (w:World),nodes x<=N->D_ x->XR w x cs->Calls Tryz.prog 29 #[.agg cs.toArray] w (Ret w (.bool (rOk x)))
 |0,x,_,_,h,_,_=>absurd (U_ x) (by omega)
 |N+1,.mk op int vk vi vs nm l,cs,w,hn,hs,h=>by
  rw[nodes] at hn
  rw[D_] at hs
  exact a8f N (fun x cs w h1 h2 h3=>a4b N x cs w h1 h2 h3) op int vk vi vs nm l cs w (by omega) hs.1 hs.2 h
def fin(s:S):S × Int:=if 65536<s.length then([],5) else(s,0)
def a4c(q:S × Int):Value:=.tuple #[.string ⟨q.1.toArray⟩,.int .i64 q.2]
theorem a9W(s:S)(w:World):Calls Tryz.prog 26 #[.string ⟨s.toArray⟩] w (Ret w (a4c (fin s))):=by
 have hsz:=mkS s
 by_cases h:65536<s.length
 ·have HF:Hid (fin s=([],5)):=h_ (by unfold fin;rw[if_pos h])
  have c:(65536:Int)<(s.length:Int):=by omega
  rw[HF.out]
  go_enter Tryz.func26,Tryz.ntmps26
  go_wp2_with fail
  go_ret2
  exact⟨rfl,Below.refl _ _⟩
 ·have HF:Hid (fin s=(s,0)):=h_ (by unfold fin;rw[if_neg h])
  have c:¬(65536:Int)<(s.length:Int):=by omega
  rw[HF.out]
  go_enter Tryz.func26,Tryz.ntmps26
  go_wp2_with fail
  go_ret2
  exact⟨rfl,Below.refl _ _⟩
theorem b1B(s:S)(w:World):Calls Tryz.prog 30 #[.string ⟨s.toArray⟩] w (Ret w (a4c (fin s))):=by
 have hsz:=mkS s
 by_cases h:65536<s.length
 ·have HF:Hid (fin s=([],5)):=h_ (by unfold fin;rw[if_pos h])
  have c:(65536:Int)<(s.length:Int):=by omega
  rw[HF.out]
  go_enter Tryz.func30,Tryz.ntmps30
  go_wp2_with fail
  go_ret2
  exact⟨rfl,Below.refl _ _⟩
 ·have HF:Hid (fin s=(s,0)):=h_ (by unfold fin;rw[if_neg h])
  have c:¬(65536:Int)<(s.length:Int):=by omega
  rw[HF.out]
  go_enter Tryz.func30,Tryz.ntmps30
  go_wp2_with fail
  go_ret2
  exact⟨rfl,Below.refl _ _⟩
end Go.Proofs.YtlimlmjljjmcpaaGreatDoor.Px
