import Derived.Test.YtlimlmjljjmcpaaGreatDoorBpX
import Derived.IntWalk
import Derived.Test.YtlimlmjljjmcpaaGreatDoorPxB
import Derived.Test.YtlimlmjljjmcpaaGreatDoorAxB
import Derived.KernelRfl
import Derived.Laws.RangeAny
import Derived.Test.YtlimlmjljjmcpaaGreatDoorTmX
import Derived.Test.YtlimlmjljjmcpaaGreatDoorBdA
import Derived.Deep.DeepCutAuto
import Derived.LoopN
set_option maxHeartbeats 16000000
set_option maxRecDepth 100000
namespace Go.Proofs.YtlimlmjljjmcpaaGreatDoor.Px
open Go Go.RowKit Go.Proofs.YtlimlmjljjmcpaaGreatDoor.Ps
set_option linter.unusedVariables false
set_option linter.unusedSimpArgs false
theorem b1j(L:List Col)(tn:S)(a a2 a3 a4:Option Addr)(m n2 m2 n3 m3 n4 m4:Nat)(i:Int)(w:World):Calls Tryz.prog 200 #[.agg #[.string ⟨tn.toArray⟩,.slice a L.length m,.slice a2 n2 m2,.slice a3 n3 m3,.slice a4 n4 m4],.int .i64 i] w (Ret w (.bool (exB i L.length))):=by
 by_cases h0:0<=i
 ·by_cases h1:i<(L.length:Int)
  ·have HF:Hid (exB i L.length=true):=h_ (by unfold exB;simp[h0,h1])
   go_enter Tryz.func200,Tryz.ntmps200
   go_upto_region 1 with(fail)
   refine nA fun w1 hB hw1 hz1=>?_
   have HW:=h_ hw1
   have p1:=hB.cell 1 rfl
   clear hB hw1 hz1
   go_wp2_with fail
   go_ret
   exact⟨by rw[HF.out];rfl,HW.out⟩
  ·have HF:Hid (exB i L.length=false):=h_ (by unfold exB;simp[h1])
   go_enter Tryz.func200,Tryz.ntmps200
   go_upto_region 1 with(fail)
   refine nA fun w1 hB hw1 hz1=>?_
   have HW:=h_ hw1
   have p1:=hB.cell 1 rfl
   clear hB hw1 hz1
   go_wp2_with fail
   go_ret
   exact⟨by rw[HF.out];rfl,HW.out⟩
 ·have HF:Hid (exB i L.length=false):=h_ (by unfold exB;simp[h0])
  go_enter Tryz.func200,Tryz.ntmps200
  go_upto_region 1 with(fail)
  refine nA fun w1 hB hw1 hz1=>?_
  have HW:=h_ hw1
  have p1:=hB.cell 1 rfl
  clear hB hw1 hz1
  go_wp2_with fail
  go_ret
  exact⟨by rw[HF.out];rfl,HW.out⟩
theorem a7I(k:Int)(w:World):Calls Tryz.prog 199 #[.int .i64 k] w (Ret w (.bool (decide (1<=k)&&decide (k<=3)))):=by
 by_cases h1:1<=k
 ·by_cases h2:k<=3
  ·have HF:Hid ((decide (1<=k)&&decide (k<=3))=true):=h_ (by simp[h1,h2])
   generalize(decide (1<=k)&&decide (k<=3))=q at HF |-
   go_enter Tryz.func199,Tryz.ntmps199
   go_wp2_with fail
   go_ret
   exact⟨by rw[HF.out];rfl,Below.refl _ _⟩
  ·have HF:Hid ((decide (1<=k)&&decide (k<=3))=false):=h_ (by simp[h2])
   generalize(decide (1<=k)&&decide (k<=3))=q at HF |-
   go_enter Tryz.func199,Tryz.ntmps199
   go_wp2_with fail
   go_ret
   exact⟨by rw[HF.out];rfl,Below.refl _ _⟩
 ·have HF:Hid ((decide (1<=k)&&decide (k<=3))=false):=h_ (by simp[h1])
  generalize(decide (1<=k)&&decide (k<=3))=q at HF |-
  go_enter Tryz.func199,Tryz.ntmps199
  go_wp2_with fail
  go_ret
  exact⟨by rw[HF.out];rfl,Below.refl _ _⟩
theorem b7P(L:List Col)(K:List Int)(tn:S)(a a2 a3 a4:Option Addr)(m m2 n3 m3 n4 m4:Nat)(w:World)(hn:L.length<=1000000)(hk:K.length<=1099511627776)(hl:CL w L (.slice a L.length m))(hi:IL w K (.slice a2 K.length m2)):Calls Tryz.prog 123 #[.agg #[.string ⟨tn.toArray⟩,.slice a L.length m,.slice a2 K.length m2,.slice a3 n3 m3,.slice a4 n4 m4]] w (a1J w (a2F L K)):=by
 have HL:=h_ hl
 have HI:=h_ hi
 clear hl hi
 go_enter Tryz.func123,Tryz.ntmps123
 go_upto_region 1 with(fail)
 refine nA fun w1 hB0 hw1 hz1=>?_
 have HB0:=h_ hB0
 have HW1:=h_ hw1
 have p2:=hB0.cell 2 rfl
 clear hB0 hw1 hz1
 by_cases h0:K.length=0
 ·have d0:((K.length:Int)==0)=true:=by simp[h0]
  have d0':(K.length==0)=true:=by simp[h0]
  have d0'':K.isEmpty=true:=by cases K;rfl;simp at h0
  have HNO:Hid (¬a2F L K):=h_ fun h=>h.1 h0
  go_wp2_with fail
  go_ret
  exact⟨25,rfl,no_ (by decide) HNO.out,HW1.out⟩
 ·have d0:((K.length:Int)==0)=false:=by rw[beq_eq_false_iff_ne];omega
  have d0':(K.length==0)=false:=by rw[beq_eq_false_iff_ne];omega
  have d0'':K.isEmpty=false:=by cases K;exact absurd rfl h0;rfl
  have HN0:=h_ h0
  go_upto_region 4 with(fail)
  clear p2 d0 d0' d0'' h0
  go_loopw [3,4,12] (fun _ _ i wr=>∃k:Nat,k<=K.length/\i=.int .i64 (k:Int)/\Hid (∀j (h:j<K.length),j<k->keyAt L K j h)/\Below w1.heap.size w1 wr) (fun _ _ i _=>K.length - (intOf i).toNat)
  case atStart=>exact⟨0,Nat.zero_le _,rfl,h_ (fun j h hj=>absurd hj (by omega)),Below.refl _ _⟩
  case round=>
   obtain⟨k,hkk,rfl,HR,hb⟩:=hrel
   have HBr:=h_ (HB0.out.below hb)
   have HBB:=h_ hb
   have HWr:=t_ HW1 hb
   clear hb
   by_cases hlt:k<K.length
   ·have k1:(k:Int)<(K.length:Int):=by omega
    have k0:(0:Int)<=(k:Int):=by omega
    obtain⟨gk,ok,eq,hx,hec⟩:=HI.out.at_ hlt
    subst eq
    have HKC:Hid (EC w gk (ok+k) [.int .i64 K[k]]):=h_ (by simpa using hec)
    have HKD:Hid (∀h0:0<k,∃kv2,kv2=K[k - 1]/\EC w gk (ok+(k - 1)) [.int .i64 kv2]):=h_ fun h=>by
     obtain⟨g2,o2,e2,hx2,hec2⟩:=HI.out.at_ (k:=k - 1) (by omega)
     cases e2
     exact⟨_,rfl,by simpa using hec2⟩
    clear hec
    have HNK:Hid (¬keyAt L K k hlt -> ¬a2F L K):=h_ fun h h2=>h (h2.2 k hlt)
    have HST:Hid (keyAt L K k hlt -> ∀j (h:j<K.length),j<k+1->keyAt L K j h):=h_ fun h j hj hjk=>by
     by_cases e:j=k
     ·subst e;exact h
     ·exact HR.out j hj (by omega)
    have HAT:Hid (keyAt L K k hlt↔exB K[k] L.length=true/\(∀h0:0<k,K[k - 1]<K[k])/\a8C L K[k]=false):=h_ Iff.rfl
    generalize keyAt L K k hlt=KA at HNK HST HAT
    have HCN0:Hid (exB K[k] L.length=true -> ∃g o nl nm kd,a=some ⟨g,o,none⟩/\a8C L K[k]=nl/\EC w g (o+K[k].toNat*3) [.string nm,.int .i64 kd,.bool nl]/\0<=K[k]/\K[k]<(L.length:Int)):=h_ (fun hex=>by
     unfold exB at hex
     simp only[Bool.and_eq_true,decide_eq_true_eq] at hex
     obtain⟨g,o,e,hx2,h2⟩:=HL.out.at_ (k:=K[k].toNat) (by omega)
     exact⟨g,o,_,_,_,e,b4j hx2,h2,hex⟩)
    have HEC:Hid (∀w',Calls Tryz.prog 200 #[.agg #[.string ⟨tn.toArray⟩,.slice a L.length m,.slice (some ⟨gk,ok,none⟩) K.length m2,.slice a3 n3 m3,.slice a4 n4 m4],.int .i64 K[k]] w' (Ret w' (.bool (exB K[k] L.length)))):=h_ fun w'=>b1j L tn a (some ⟨gk,ok,none⟩) a3 a4 m K.length m2 n3 m3 n4 m4 K[k] w'
    generalize K[k]=kv at HKC HCN0 HAT HEC
    generalize exB kv L.length=bx at HEC HCN0 HAT
    have e0:=HKC.out.at0 HWr.out rfl
    obtain⟨t0,t1,t2,t3,t4⟩:=HBr.out.c5
    go_upto_region 6 with(fail)
    go_wp2_with fail
    refine(HEC.out wr).mono ?_
    rintro e w4 ⟨rfl,hw4⟩
    have HD0:=h_ (HBr.out.below hw4)
    have HW4:=t_ HWr hw4
    have HBB4:=t_ HBB hw4
    clear hw4 e0 t0 t1 t2 t3 t4 HEC HBr HWr HBB
    cases bx with
    |false=>
     have HNO:=h_ (HNK.out fun h=>by have:=(HAT.out.1 h).1;cases this)
     go_wp2_with fail
     go_ret
     exact⟨25,rfl,no_ (by decide) HNO.out,HW4.out⟩
    |true=>
     obtain⟨g,o,nl,nm,kd,ea,hnl,hcn,v0,v1⟩:=HCN0.out rfl
     have HNL:=h_ hnl
     have HCN:=h_ hcn
     clear hcn HCN0 hnl
     subst ea
     obtain⟨PL,hpl⟩:∃PL:Prop,PL=(∀h0:0<k,K[k - 1]<kv):=⟨_,rfl⟩
     have HPL:=h_ hpl
     rw[<-hpl] at HAT
     clear hpl
     by_cases hz:k=0
     ·have HLE:Hid PL:=h_ (by rw[HPL.out];exact fun h=>absurd hz (by omega))
      have g0:¬(0:Int)<(k:Int):=by omega
      have t1:=HD0.out.cell 1 rfl
      have c2:=HCN.out.at_ HW4.out (j:=2) rfl
      clear HKD hz
      cases nl with
      |true=>
       have HNO:=h_ (HNK.out fun h=>by have:=(HAT.out.1 h).2.2;rw[HNL.out] at this;cases this)
       go_wp2_with fail
       go_ret
       exact⟨12,rfl,no_ (by decide) HNO.out,HW4.out⟩
      |false=>
       have HN:=h_ (HST.out (HAT.out.2 ⟨by simp,HLE.out,HNL.out⟩))
       go_wp2_with fail
       go_roundw
       case rel=>exact⟨k+1,by omega,by go_num,HN,HBB4.out⟩
       case measure=>simp[intOf];omega
     ·obtain⟨kv2,hk2,hkd⟩:=HKD.out (by omega)
      have HLT:=h_ hk2
      have e1:w4.cell? ⟨gk,ok+(k - 1),none⟩=some (.int .i64 kv2):=EC.at0 hkd HW4.out rfl
      clear hk2 hkd HKD
      have g0:(0:Int)<(k:Int):=by omega
      have kp:0<k:=by omega
      have kw:IntKind.i64.wrap ((k:Int) - 1)=(k:Int) - 1:=Go.IntWalk.i64_in _ (by omega)
      have kn:((k:Int) - 1).toNat=k - 1:=by omega
      have ka:0<=(k:Int) - 1:=by omega
      have kc:1<=(k:Int):=by omega
      have kb:(k:Int) - 1<(K.length:Int):=by omega
      have t2:=HD0.out.cell 2 rfl
      by_cases hle:kv<=kv2
      ·have HNO:=h_ (HNK.out fun h=>by have:=(HAT.out.1 h).2.1;rw[HPL.out] at this;have:=this kp;rw[<-HLT.out] at this;omega)
       clear kp
       go_wp2_with fail
       go_ret
       exact⟨25,rfl,no_ (by decide) HNO.out,HW4.out⟩
      ·have HLE:Hid PL:=h_ (by rw[HPL.out];exact fun _=>by rw[<-HLT.out];omega)
       have t1:=HD0.out.cell 1 rfl
       have c2:=HCN.out.at_ HW4.out (j:=2) rfl
       clear kp
       cases nl with
       |true=>
        have HNO:=h_ (HNK.out fun h=>by have:=(HAT.out.1 h).2.2;rw[HNL.out] at this;cases this)
        go_wp2_with fail
        go_ret
        exact⟨12,rfl,no_ (by decide) HNO.out,HW4.out⟩
       |false=>
        have HN:=h_ (HST.out (HAT.out.2 ⟨by simp,HLE.out,HNL.out⟩))
        go_wp2_with fail
        go_roundw
        case rel=>exact⟨k+1,by omega,by go_num,HN,HBB4.out⟩
        case measure=>simp[intOf];omega
   ·obtain rfl:k=K.length:=by omega
    have d1:decide ((K.length:Int)<(K.length:Int))=false:=decide_eq_false (by omega)
    have HY:Hid (a2F L K):=h_ ⟨HN0.out,fun j h=>HR.out j h h⟩
    go_wp2_with fail
    go_ret
    exact⟨0,rfl,b1u HY.out,HWr.out⟩
theorem b7a:(List.range 87).all (fun k=>Ax.a3z (Ax.a0y Tryz.prog Ax.a0Y (Ax.a0E Tryz.prog) 10 (.fn 198) [.str ((B_.getD k []).map UInt8.toNat)] .leaf 0))=true:=by kernel_rfl
theorem b0k(s:S)(w:World)(ht:Ax.a0O w):Calls Tryz.prog 198 #[.string ⟨s.toArray⟩] w (Ret w (.bool (B_.contains s))):=by
 cases hc:B_.contains s with
 |true=>
  have hm:s∈B_:=by simpa using hc
  obtain⟨k,hk,rfl⟩:=List.getElem_of_mem hm
  have hk87:k<87:=by rw[a2N] at hk;exact hk
  have hf:=List.all_eq_true.1 b7a k (by simpa using hk87)
  rw[List.getD_eq_getElem?_getD,List.getElem?_eq_getElem hk,Option.getD_some] at hf
  generalize B_[k]=s at hf
  have hs:Ax.r_ (s.map UInt8.toNat)=⟨s.toArray⟩:=by
   have:=Ax.a5k ⟨s.toArray⟩
   simpa[Ax.codes] using this
  have:=Ax.b4S hf (fun _=>.tuple #[]) [.string (Ax.r_ (s.map UInt8.toNat))] (Ax.b1V (.str fun x hx=>by
   obtain⟨c,_,rfl⟩:=List.mem_map.1 hx
   exact c.toNat_lt) Ax.b1n) w ht trivial
  rw[hs] at this
  exact this
 |false=>
  have hw:∀x∈B_,(s==x)=false:=fun x hx=>by
   cases h:s==x with
   |false=>rfl
   |true=>
    have e:s=x:=by simpa using h
    subst e
    rw[List.contains_eq_mem] at hc
    simp[hx] at hc
  have d0:(s==[97,100,100])=false:=hw _ (by decide +kernel)
  have d1:(s==[97,102,116,101,114])=false:=hw _ (by decide +kernel)
  have d2:(s==[97,108,108])=false:=hw _ (by decide +kernel)
  have d3:(s==[97,108,116,101,114])=false:=hw _ (by decide +kernel)
  have d4:(s==[97,110,100])=false:=hw _ (by decide +kernel)
  have d5:(s==[97,115])=false:=hw _ (by decide +kernel)
  have d6:(s==[98,101,102,111,114,101])=false:=hw _ (by decide +kernel)
  have d7:(s==[98,101,103,105,110])=false:=hw _ (by decide +kernel)
  have d8:(s==[98,101,116,119,101,101,110])=false:=hw _ (by decide +kernel)
  have d9:(s==[98,111,111,108])=false:=hw _ (by decide +kernel)
  have d10:(s==[98,121])=false:=hw _ (by decide +kernel)
  have d11:(s==[99,104,101,99,107])=false:=hw _ (by decide +kernel)
  have d12:(s==[99,111,97,108,101,115,99,101])=false:=hw _ (by decide +kernel)
  have d13:(s==[99,111,109,109,105,116])=false:=hw _ (by decide +kernel)
  have d14:(s==[99,111,110,116,97,105,110,115])=false:=hw _ (by decide +kernel)
  have d15:(s==[99,111,117,110,116])=false:=hw _ (by decide +kernel)
  have d16:(s==[99,114,101,97,116,101])=false:=hw _ (by decide +kernel)
  have d17:(s==[100,101,102,97,117,108,116])=false:=hw _ (by decide +kernel)
  have d18:(s==[100,101,108,101,116,101])=false:=hw _ (by decide +kernel)
  have d19:(s==[100,101,115,99])=false:=hw _ (by decide +kernel)
  have d20:(s==[100,105,115,116,105,110,99,116])=false:=hw _ (by decide +kernel)
  have d21:(s==[100,114,111,112])=false:=hw _ (by decide +kernel)
  have d22:(s==[100,117,114,105,110,103])=false:=hw _ (by decide +kernel)
  have d23:(s==[101,113,117,97,108,115])=false:=hw _ (by decide +kernel)
  have d24:(s==[101,120,99,101,112,116])=false:=hw _ (by decide +kernel)
  have d25:(s==[102,97,108,115,101])=false:=hw _ (by decide +kernel)
  have d26:(s==[102,105,110,105,115,104,101,100,98,121])=false:=hw _ (by decide +kernel)
  have d27:(s==[102,105,110,105,115,104,101,115])=false:=hw _ (by decide +kernel)
  have d28:(s==[102,111,114,101,105,103,110])=false:=hw _ (by decide +kernel)
  have d29:(s==[102,111,114,101,118,101,114])=false:=hw _ (by decide +kernel)
  have d30:(s==[102,114,111,109])=false:=hw _ (by decide +kernel)
  have d31:(s==[103,114,111,117,112])=false:=hw _ (by decide +kernel)
  have d32:(s==[104,111,108,100])=false:=hw _ (by decide +kernel)
  have d33:(s==[105,102])=false:=hw _ (by decide +kernel)
  have d34:(s==[105,110,115,101,114,116])=false:=hw _ (by decide +kernel)
  have d35:(s==[105,110,116])=false:=hw _ (by decide +kernel)
  have d36:(s==[105,110,116,101,114,115,101,99,116])=false:=hw _ (by decide +kernel)
  have d37:(s==[105,110,116,111])=false:=hw _ (by decide +kernel)
  have d38:(s==[105,115])=false:=hw _ (by decide +kernel)
  have d39:(s==[106,111,105,110])=false:=hw _ (by decide +kernel)
  have d40:(s==[107,101,121])=false:=hw _ (by decide +kernel)
  have d41:(s==[108,101,102,116])=false:=hw _ (by decide +kernel)
  have d42:(s==[108,101,110,103,116,104])=false:=hw _ (by decide +kernel)
  have d43:(s==[108,105,109,105,116])=false:=hw _ (by decide +kernel)
  have d44:(s==[109,97,120])=false:=hw _ (by decide +kernel)
  have d45:(s==[109,101,101,116,115])=false:=hw _ (by decide +kernel)
  have d46:(s==[109,101,116,98,121])=false:=hw _ (by decide +kernel)
  have d47:(s==[109,105,110])=false:=hw _ (by decide +kernel)
  have d48:(s==[110,111,110,115,101,113,117,101,110,99,101,100])=false:=hw _ (by decide +kernel)
  have d49:(s==[110,111,116])=false:=hw _ (by decide +kernel)
  have d50:(s==[110,111,119])=false:=hw _ (by decide +kernel)
  have d51:(s==[110,117,108,108])=false:=hw _ (by decide +kernel)
  have d52:(s==[111,102])=false:=hw _ (by decide +kernel)
  have d53:(s==[111,110])=false:=hw _ (by decide +kernel)
  have d54:(s==[111,114])=false:=hw _ (by decide +kernel)
  have d55:(s==[111,114,100,101,114])=false:=hw _ (by decide +kernel)
  have d56:(s==[111,118,101,114,108,97,112,112,101,100,98,121])=false:=hw _ (by decide +kernel)
  have d57:(s==[111,118,101,114,108,97,112,115])=false:=hw _ (by decide +kernel)
  have d58:(s==[112,114,105,109,97,114,121])=false:=hw _ (by decide +kernel)
  have d59:(s==[112,114,117,110,101])=false:=hw _ (by decide +kernel)
  have d60:(s==[114,101,102,101,114,101,110,99,101,115])=false:=hw _ (by decide +kernel)
  have d61:(s==[114,101,108,101,97,115,101])=false:=hw _ (by decide +kernel)
  have d62:(s==[114,101,110,97,109,101])=false:=hw _ (by decide +kernel)
  have d63:(s==[114,101,116,97,105,110])=false:=hw _ (by decide +kernel)
  have d64:(s==[114,111,108,108,98,97,99,107])=false:=hw _ (by decide +kernel)
  have d65:(s==[115,101,108,101,99,116])=false:=hw _ (by decide +kernel)
  have d66:(s==[115,101,113,117,101,110,99,101,100])=false:=hw _ (by decide +kernel)
  have d67:(s==[115,101,116])=false:=hw _ (by decide +kernel)
  have d68:(s==[115,116,97,114,116,101,100,98,121])=false:=hw _ (by decide +kernel)
  have d69:(s==[115,116,97,114,116,115])=false:=hw _ (by decide +kernel)
  have d70:(s==[115,117,109])=false:=hw _ (by decide +kernel)
  have d71:(s==[115,121,115,116,101,109])=false:=hw _ (by decide +kernel)
  have d72:(s==[115,121,115,116,101,109,102,114,111,109])=false:=hw _ (by decide +kernel)
  have d73:(s==[115,121,115,116,101,109,116,111])=false:=hw _ (by decide +kernel)
  have d74:(s==[116,97,98,108,101])=false:=hw _ (by decide +kernel)
  have d75:(s==[116,101,120,116])=false:=hw _ (by decide +kernel)
  have d76:(s==[116,111])=false:=hw _ (by decide +kernel)
  have d77:(s==[116,114,117,101])=false:=hw _ (by decide +kernel)
  have d78:(s==[116,120])=false:=hw _ (by decide +kernel)
  have d79:(s==[117,110,100,101,114])=false:=hw _ (by decide +kernel)
  have d80:(s==[117,110,105,111,110])=false:=hw _ (by decide +kernel)
  have d81:(s==[117,112,100,97,116,101])=false:=hw _ (by decide +kernel)
  have d82:(s==[118,97,108,105,100])=false:=hw _ (by decide +kernel)
  have d83:(s==[118,97,108,105,100,102,114,111,109])=false:=hw _ (by decide +kernel)
  have d84:(s==[118,97,108,105,100,116,111])=false:=hw _ (by decide +kernel)
  have d85:(s==[118,97,108,117,101,115])=false:=hw _ (by decide +kernel)
  have d86:(s==[119,104,101,114,101])=false:=hw _ (by decide +kernel)
  clear hw hc
  go_enter Tryz.func198,Tryz.ntmps198
  go_wp2_with fail
  go_ret
  exact⟨rfl,Below.refl _ _⟩
theorem a1X(w:World)(b:ByteArray)(p:Nat):Below w.heap.size w (w.iter b p):=
 d_ w _
def b8H(b:ByteArray)(pos:Nat):Prop:=∀j (h:j<b.size),j<pos->a1F b[j].toNat=true/\(j=0->a0j b[j].toNat=false)
theorem b7d{b:ByteArray}{pos:Nat}(h:b8H b pos)(hp:pos<b.size)(h1:a1F b[pos].toNat=true)(h2:pos=0->a0j b[pos].toNat=false):b8H b (pos+1):=fun j hj hjp=>by
 by_cases e:j=pos
 ·subst e;exact⟨h1,h2⟩
 ·exact h j hj (by omega)
theorem b4K{b:ByteArray}(h:b8H b b.size)(h1:1<=b.size)(h2:b.size<=24):nameB b.data.toList = !B_.contains b.data.toList:=by
 have ha:b.data.toList.all (fun c=>a1F c.toNat)=true:=b2t fun j hj hjs=>(h j hj hjs).1
 have hd:a2D b.data.toList=false:=by rw[a3U (by omega)];exact(h 0 (by omega) (by omega)).2 rfl
 unfold nameB
 rw[hd,ha,b2U ha]
 have e1:b.data.toList.isEmpty=false:=by
  cases e:b.data.toList with
  |nil=>
   have:b.data.toList.length=b.size:=by rw[Array.length_toList];rfl
   rw[e] at this;simp at this;omega
  |cons=>rfl
 have e2:b.data.toList.length=b.size:=by rw[Array.length_toList];rfl
 rw[e1,e2,decide_eq_true h2]
 simp
theorem c0g{b:ByteArray}{pos:Nat}(hp:pos<b.size)(h:a1F b[pos].toNat=false):nameB b.data.toList=false:=a4e (a9b hp) h
theorem c0I(b:ByteArray)(w:World)(ht:Ax.a0O w):Calls Tryz.prog 121 #[.string b] w (Ret w (.bool (nameB b.data.toList))):=by
 have HT:=h_ ht
 have HNO:Hid (∀pos (hp:pos<b.size),a1F b[pos].toNat=false->nameB b.data.toList=false):=h_ fun pos hp h=>c0g hp h
 have HDG:Hid (∀h:0<b.size,a0j b[0].toNat=true->nameB b.data.toList=false):=h_ fun h e=>a5C (by rw[a3U h];exact e)
 have HUP:Hid (b8H b b.size->1<=b.size->b.size<=24->nameB b.data.toList = !B_.contains b.data.toList):=h_ b4K
 have HLG:Hid (24<b.size->nameB b.data.toList=false):=h_ fun h=>a4V (by rw[Array.length_toList];exact h)
 have HEM:Hid (b.size=0->nameB b.data.toList=false):=h_ fun h=>a3Z (List.eq_nil_of_length_eq_zero (by rw[Array.length_toList];exact h))
 generalize nameB b.data.toList=q at HNO HDG HUP HLG HEM |-
 clear ht
 go_enter Tryz.func121,Tryz.ntmps121
 go_upto_region 2 with(fail)
 go_loopw [3,4] (fun _ _ w'=>∃pos,w'=w.iter b pos/\pos<=b.size/\Hid (b8H b pos)) (fun _ _ w'=>b.size - w'.iterPos w.heap.size)
 case atStart=>exact⟨0,rfl,Nat.zero_le _,h_ (fun j _ h=>absurd h (by omega))⟩
 case round=>
  obtain⟨pos,rfl,hp,HK⟩:=hrel
  have HW:=h_ (a1X w b pos)
  by_cases hlt:pos<b.size
  ·have HST:=h_ (fun h1 h2=>b7d HK.out hlt h1 h2)
   have HNP:=h_ (HNO.out pos hlt)
   by_cases ha:b[pos].toNat<128
   ·have hnx:∀ty,(Instr.next (.pointer (some ⟨w.heap.size,0,none⟩)) true ty).run Tryz.prog (w.iter b pos)=_:=fun ty=>run_next_ascii w b pos ty hlt ha
    have HD0:Hid (pos=0->a0j b[pos].toNat=true->q=false):=h_ (by rintro rfl h;exact HDG.out hlt h)
    generalize b[pos].toNat=c at hnx HST HNP HD0 ha
    have hnx2:∀ty,(Instr.next (.pointer (some ⟨w.heap.size,0,none⟩)) true ty).run Tryz.prog (w.iter b pos)=.ok (.tuple #[.bool true,.int .i64 pos,.int .i32 (c:Int)]) (w.iter b (pos+1)):=hnx
    clear hnx
    by_cases hl:97<=c/\c<=122
    ·obtain⟨l1,l2⟩:=hl
     have HN:=h_ (HST.out (by unfold a1F;simp[l1,l2]) (fun _=>by unfold a0j;simp;omega))
     have g1:¬(c:Int)<97:=by omega
     have g2:¬(122:Int)<(c:Int):=by omega
     go_wp2_with fail
     go_roundw
     case rel=>exact⟨pos+1,rfl,by omega,HN⟩
     case measure=>simp;omega
    ·by_cases hu:c=95
     ·subst hu
      have HN:=h_ (HST.out (by decide) (fun _=>by decide))
      go_wp2_with fail
      go_roundw
      case rel=>exact⟨pos+1,rfl,by omega,HN⟩
      case measure=>simp;omega
     ·have u1:((c:Int) != 95)=true:=by simp;omega
      by_cases hd:48<=c/\c<=57
      ·obtain⟨d1,d2⟩:=hd
       have g1:(c:Int)<97:=by omega
       have g3:¬(c:Int)<48:=by omega
       have g4:¬(57:Int)<(c:Int):=by omega
       by_cases h0:pos=0
       ·have HF:Hid (q=false):=h_ (HD0.out h0 (by unfold a0j;simp[d1,d2]))
        subst h0
        go_wp2_with fail
        go_ret
        exact⟨by rw[HF.out];rfl,(a1X w b _)⟩
       ·have HN:=h_ (HST.out (by unfold a1F;simp[d1,d2]) (fun e=>absurd e h0))
        have g5:((pos:Int)==0)=false:=by simp;omega
        go_wp2_with fail
        go_roundw
        case rel=>exact⟨pos+1,rfl,by omega,HN⟩
        case measure=>simp;omega
      ·have HF:Hid (q=false):=h_ (HNP.out (by unfold a1F;simp;omega))
       by_cases g1:(c:Int)<97
       ·by_cases g3:(c:Int)<48
        ·go_wp2_with fail
         go_ret
         exact⟨by rw[HF.out];rfl,(a1X w b _)⟩
        ·have g4:(57:Int)<(c:Int):=by omega
         go_wp2_with fail
         go_ret
         exact⟨by rw[HF.out];rfl,(a1X w b _)⟩
       ·have g2:(122:Int)<(c:Int):=by omega
        have g3:¬(c:Int)<48:=by omega
        have g4:(57:Int)<(c:Int):=by omega
        go_wp2_with fail
        go_ret
        exact⟨by rw[HF.out];rfl,(a1X w b _)⟩
   ·have hnx:=fun ty=>run_next_any (P:=Tryz.prog) w b pos ty hlt
    have hdh:=decode_high b pos hlt (by omega)
    have HF:Hid (q=false):=h_ (HNP.out (by unfold a1F;simp;omega))
    generalize Utf8.decode b pos=d at hnx hdh
    obtain⟨r,n⟩:=d
    simp only at hnx hdh
    have g1:¬(r:Int)<97:=by omega
    have g2:(122:Int)<(r:Int):=by omega
    have g3:¬(r:Int)<48:=by omega
    have g4:(57:Int)<(r:Int):=by omega
    have u1:((r:Int) != 95)=true:=by simp;omega
    clear hdh
    go_wp2_with fail
    go_ret
    exact⟨by rw[HF.out];rfl,(a1X w b _)⟩
  ·obtain rfl:pos=b.size:=by omega
   have hnx:=fun ty=>run_next_end (P:=Tryz.prog) w b b.size ty hlt
   have HRES:=h_ (b0k b.data.toList (w.iter b b.size) (Ax.n_ HT.out HW.out))
   go_upto_region 6 with(fail)
   by_cases h1:b.size=0
   ·have HF:Hid (q=false):=h_ (HEM.out h1)
    have g1:¬(1:Int)<=(b.size:Int):=by omega
    clear h1
    go_wp2_with fail
    go_ret
    exact⟨by rw[HF.out];rfl,HW.out⟩
   ·have g1:(1:Int)<=(b.size:Int):=by omega
    by_cases h2:24<b.size
    ·have HF:Hid (q=false):=h_ (HLG.out h2)
     have g2:¬(b.size:Int)<=24:=by omega
     clear h1 h2
     go_wp2_with fail
     go_ret
     exact⟨by rw[HF.out];rfl,HW.out⟩
    ·have g2:(b.size:Int)<=24:=by omega
     have HF:=h_ (HUP.out HK.out (by omega) (by omega))
     clear h1 h2
     have e:(⟨b.data.toList.toArray⟩:ByteArray)=b:=by simp
     rw[e] at HRES
     generalize B_.contains b.data.toList=z at HRES HF
     go_wp2_with fail
     refine HRES.out.mono ?_
     rintro e w5 ⟨rfl,hw5⟩
     have HW5:=t_ HW hw5
     clear hw5
     go_wp2_with fail
     go_ret
     exact⟨by rw[HF.out];rfl,HW5.out⟩
theorem a3W(s:S)(w:World)(ht:Ax.a0O w):Calls Tryz.prog 121 #[.string ⟨s.toArray⟩] w (Ret w (.bool (nameB s))):=by
 have:=c0I ⟨s.toArray⟩ w ht
 simpa using this
theorem b5r(L:List Col)(tn:S)(a a2 a3 a4:Option Addr)(m n2 m2 n3 m3 n4 m4:Nat)(w:World)(ht:Ax.a0O w)(hL:L.length<=1000000)(hl:CL w L (.slice a L.length m)):Calls Tryz.prog 122 #[.agg #[.string ⟨tn.toArray⟩,.slice a L.length m,.slice a2 n2 m2,.slice a3 n3 m3,.slice a4 n4 m4]] w (a1J w (a0f L)):=by
 have HMM:=h_ (@run_makeMap Tryz.prog)
 have HL:=h_ hl
 have HNM:=h_ (a4m hl)
 have HT:=h_ fun(w':World) (hw':Below w.heap.size w w')=>Ax.n_ ht hw'
 clear hl ht
 go_enter Tryz.func122,Tryz.ntmps122
 go_upto_region 1 with(fail)
 refine nA fun w1 hB0 hw1 hz1=>?_
 have HB0:=h_ hB0
 have HW1:=h_ hw1
 have p1:=hB0.cell 1 rfl
 clear hB0 hw1 hz1
 by_cases h1:(L.length:Int)<1
 ·have HNO:Hid (¬a0f L):=h_ fun h=>by have:=h.1;omega
  go_wp2_with fail
  go_ret
  exact⟨13,rfl,no_ (by decide) HNO.out,HW1.out⟩
 ·by_cases h12:(12:Int)<(L.length:Int)
  ·have HNO:Hid (¬a0f L):=h_ fun h=>by have:=h.1;omega
   go_wp2_with fail
   go_ret
   exact⟨13,rfl,no_ (by decide) HNO.out,HW1.out⟩
  ·have HLN:Hid (1<=L.length/\L.length<=12):=h_ ⟨by omega,by omega⟩
   have hmm:=HMM.out
   go_upto_region 4 with(fail)
   clear hmm p1 h1 h12
   refine b7G (K:=Code.wp _ _ _ _) fun w2 hM hw2 hz2=>?_
   have HM2:=h_ hM
   have HB2:=h_ (HB0.out.below hw2)
   have HBB2:=h_ hw2
   have HLT:Hid (w.heap.size<w1.heap.size):=h_ HB0.out.lt
   have HBE:Hid (w1.heap.size<w2.heap.size):=h_ (by omega)
   clear hM hw2 hz2
   have p1:=HB2.out.cell 1 rfl
   go_upto_region 5 with(fail)
   clear p1
   go_loopw [5,20] (fun _ i wr=>∃k:Nat,k<=L.length/\i=.int .i64 (k:Int)/\Hid (∀j (h:j<L.length),j<k->a1C L[j]/\L[j].nm ∉ (L.take j).map (·.nm))/\wr.ownsMap Tryz.prog 9 (plainElem Tryz.prog 3) w1.heap.size k (b2s ((L.take k).map (·.nm)))/\Below w1.heap.size w1 wr/\w2.heap.size<=wr.heap.size) (fun _ i _=>L.length - (intOf i).toNat)
   case atStart=>exact⟨0,Nat.zero_le _,rfl,h_ (fun j h hj=>absurd hj (by omega)),HM2.out,HBB2.out,Nat.le_refl _⟩
   case round=>
    obtain⟨k,hkk,rfl,HR,hmp,hb,hsz⟩:=hrel
    have HMr:=h_ hmp
    have HBr:=h_ (HB0.out.below hb)
    have HBB:=h_ hb
    have HWr:=t_ HW1 hb
    have HSr:=h_ hsz
    clear hb hmp hsz
    by_cases hlt:k<L.length
    ·have k1:(k:Int)<(L.length:Int):=by omega
     have k0:(0:Int)<=(k:Int):=by omega
     have HKL:Hid (k<=12):=h_ (by have:=HLN.out;omega)
     obtain⟨g,o,eq,hx,hec⟩:=HL.out.at_ hlt
     subst eq
     have c0:=hec.at0 HWr.out rfl
     have c1:=hec.at_ HWr.out (j:=1) rfl
     have c2:=hec.at_ HWr.out (j:=2) rfl
     have HIF:Hid (a0f L->(nameB L[k].nm=true/\1<=L[k].kind/\L[k].kind<=3)/\L[k].nm ∉ (L.take k).map (·.nm)):=h_ fun h=>⟨h.2.1 _ (List.getElem_mem hx),a5T.1 h.2.2 k hx⟩
     have HST:Hid ((nameB L[k].nm=true/\1<=L[k].kind/\L[k].kind<=3)->L[k].nm ∉ (L.take k).map (·.nm) -> ∀j (h:j<L.length),j<k+1->a1C L[j]/\L[j].nm ∉ (L.take j).map (·.nm)):=h_ fun h3 h4 j hj hjk=>by
      by_cases e:j=k
      ·subst e;exact⟨h3,h4⟩
      ·exact HR.out j hj (by omega)
     have HTK:Hid ((L.take (k+1)).map (·.nm)=(L.take k).map (·.nm)++[L[k].nm]):=h_ (by rw[List.take_add_one,List.getElem?_eq_getElem hx,List.map_append];rfl)
     have HKY:Hid (keyOf Tryz.prog 9 (.string ⟨L[k].nm.toArray⟩)=some (.string L[k].nm)):=h_ (by have:=Go.WideMaps.keyOf_string_mk Tryz.underlying9 (s:=⟨L[k].nm.toArray⟩) (by simpa[ByteArray.size] using HNM.out _ (List.getElem_mem hx));simpa using this)
     clear hec
     generalize(L.take k).map (·.nm)=ms at HMr HIF HST HTK
     generalize L[k].nm=nm at c0 HIF HST HTK HKY
     generalize L[k].kind=kd at c1 HIF HST
     generalize L[k].nul=nl at c2
     go_upto_region 7 with(fail)
     refine nA fun w4 hE hw4 hz4=>?_
     have HE4:=h_ hE
     have HM4:=h_ (HMr.out.kept (grown_below hw4 none) (by simp))
     have HB4:=h_ (HBr.out.below hw4)
     have HBB4:=t_ HBB hw4
     have HXM:Hid (w1.heap.size<wr.heap.size):=h_ (Nat.lt_of_lt_of_le HBE.out HSr.out)
     have HS4:=h_ (Nat.le_trans HSr.out hw4.size)
     clear hE hw4 hz4 c0 c1 c2
     have x0:=HE4.out.cell 0 rfl
     by_cases hin:nm∈ms
     ·have HIN:=h_ hin
      clear hin
      go_upto_region 8 with(first
       |(at_lookup;refine wpList_lookup_own_int _ rfl _ _ 215 rfl 9 3 .i64 keyS Tryz.underlying215 Tryz.underlying3 (a2S _) w1.heap.size k _ rfl HM4.out _ _ rfl HKY.out ?_;intro c hat hwc;obtain rfl:c=1:=a2Y (hat.symm.trans (b9C HIN.out _)))
       |(at_mapUpdate;refine wpList_mapUpdate_own _ rfl _ _ _ 215 rfl 9 3 keyS Tryz.underlying215 _ w1.heap.size k _ rfl HM4.out (by have:=HKL.out;unfold maxLen;omega) _ _ _ rfl rfl HKY.out _ [] (plainElem_int Tryz.underlying3 (by first|rfl|decide)) ?_;intro w6 hown6 hgrow6))
      have HM6:=h_ hown6
      have HB6:=h_ (HB4.out.grown hgrow6 (by have:=HLT.out;omega))
      have HE6:=h_ (HE4.out.grown hgrow6 (by have:=HXM.out;omega))
      have HBB6:=h_ (HBB4.out.grown hgrow6 HBB4.out.size (fun g e=>by cases e;exact Nat.le_refl _))
      have HW6:=h_ (HW1.out.trans (HBB6.out.mono HW1.out.size))
      have HS6:=h_ (Nat.le_trans HS4.out hgrow6.size)
      clear hown6 hgrow6 x0
      have x0:=HE6.out.cell 0 rfl
      go_wp2_with fail
      refine(a3W nm w6 (HT.out w6 HW6.out)).mono ?_
      rintro e w7 ⟨rfl,hw7⟩
      have HM7:=h_ (HM6.out.kept (grown_below hw7 none) (by simp))
      have HE7:=h_ (HE6.out.below hw7)
      have HBB7:=t_ HBB6 hw7
      have HW7:=t_ HW6 hw7
      have HS7:=h_ (Nat.le_trans HS6.out hw7.size)
      clear hw7 x0
      cases hnb:nameB nm with
      |false=>
       have HNO:Hid (¬a0f L):=h_ fun h=>(HIF.out h).2 HIN.out
       go_wp2_with fail
       go_ret
       exact⟨1,rfl,no_ (by decide) HNO.out,HW7.out⟩
      |true=>
       have HNB:=h_ hnb
       clear hnb
       have z1:=HE7.out.cell 1 rfl
       have HKO:=h_ (a7I kd w7)
       obtain⟨bk,hbk⟩:∃bk:Bool,bk=(decide (1<=kd)&&decide (kd<=3)):=⟨_,rfl⟩
       have HBK:=h_ hbk
       rw[<-hbk] at HKO
       clear hbk
       go_wp2_with fail
       refine HKO.out.mono ?_
       rintro e w8 ⟨rfl,hw8⟩
       have HM8:=h_ (HM7.out.kept (grown_below hw8 none) (by simp))
       have HE8:=h_ (HE7.out.below hw8)
       have HBB8:=t_ HBB7 hw8
       have HW8:=t_ HW7 hw8
       have HS8:=h_ (Nat.le_trans HS7.out hw8.size)
       clear hw8 z1 HKO
       cases bk with
       |false=>
        have HNO:Hid (¬a0f L):=h_ fun h=>(HIF.out h).2 HIN.out
        go_wp2_with fail
        go_ret
        exact⟨7,rfl,no_ (by decide) HNO.out,HW8.out⟩
       |true=>
        have x0:=HE8.out.cell 0 rfl
        have HNO:Hid (¬a0f L):=h_ fun h=>(HIF.out h).2 HIN.out
        go_wp2_with (at_lookup;refine wpList_lookup_own_int _ rfl _ _ 215 rfl 9 3 .i64 keyS Tryz.underlying215 Tryz.underlying3 (a2S _) w1.heap.size (k+1) _ rfl HM8.out _ _ rfl HKY.out ?_;intro c hat hwc;obtain rfl:c=2:=a2Y (hat.symm.trans (Go.Maps.atKey_put_same (b2E _) (by simp[Go.WideAt.IsKeyLit]) _ _)))
        go_ret
        exact⟨10,rfl,no_ (by decide) HNO.out,HW8.out⟩
     ·have HIN:=h_ hin
      clear hin
      go_upto_region 8 with(first
       |(at_lookup;refine wpList_lookup_own_int _ rfl _ _ 215 rfl 9 3 .i64 keyS Tryz.underlying215 Tryz.underlying3 (a2S _) w1.heap.size k _ rfl HM4.out _ _ rfl HKY.out ?_;intro c hat hwc;obtain rfl:c=0:=a2Y (hat.symm.trans (c0j HIN.out _)))
       |(at_mapUpdate;refine wpList_mapUpdate_own _ rfl _ _ _ 215 rfl 9 3 keyS Tryz.underlying215 _ w1.heap.size k _ rfl HM4.out (by have:=HKL.out;unfold maxLen;omega) _ _ _ rfl rfl HKY.out _ [] (plainElem_int Tryz.underlying3 (by first|rfl|decide)) ?_;intro w6 hown6 hgrow6))
      have HM6:=h_ hown6
      have HB6:=h_ (HB4.out.grown hgrow6 (by have:=HLT.out;omega))
      have HE6:=h_ (HE4.out.grown hgrow6 (by have:=HXM.out;omega))
      have HBB6:=h_ (HBB4.out.grown hgrow6 HBB4.out.size (fun g e=>by cases e;exact Nat.le_refl _))
      have HW6:=h_ (HW1.out.trans (HBB6.out.mono HW1.out.size))
      have HS6:=h_ (Nat.le_trans HS4.out hgrow6.size)
      clear hown6 hgrow6 x0
      have x0:=HE6.out.cell 0 rfl
      go_wp2_with fail
      refine(a3W nm w6 (HT.out w6 HW6.out)).mono ?_
      rintro e w7 ⟨rfl,hw7⟩
      have HM7:=h_ (HM6.out.kept (grown_below hw7 none) (by simp))
      have HE7:=h_ (HE6.out.below hw7)
      have HBB7:=t_ HBB6 hw7
      have HW7:=t_ HW6 hw7
      have HS7:=h_ (Nat.le_trans HS6.out hw7.size)
      clear hw7 x0
      cases hnb:nameB nm with
      |false=>
       have HNO:Hid (¬a0f L):=h_ fun h=>by have:=(HIF.out h).1.1;rw[hnb] at this;cases this
       go_wp2_with fail
       go_ret
       exact⟨1,rfl,no_ (by decide) HNO.out,HW7.out⟩
      |true=>
       have HNB:=h_ hnb
       clear hnb
       have z1:=HE7.out.cell 1 rfl
       have HKO:=h_ (a7I kd w7)
       obtain⟨bk,hbk⟩:∃bk:Bool,bk=(decide (1<=kd)&&decide (kd<=3)):=⟨_,rfl⟩
       have HBK:=h_ hbk
       rw[<-hbk] at HKO
       clear hbk
       go_wp2_with fail
       refine HKO.out.mono ?_
       rintro e w8 ⟨rfl,hw8⟩
       have HM8:=h_ (HM7.out.kept (grown_below hw8 none) (by simp))
       have HE8:=h_ (HE7.out.below hw8)
       have HBB8:=t_ HBB7 hw8
       have HW8:=t_ HW7 hw8
       have HS8:=h_ (Nat.le_trans HS7.out hw8.size)
       clear hw8 z1 HKO
       cases bk with
       |false=>
        have HNO:Hid (¬a0f L):=h_ fun h=>by have:=(HIF.out h).1.2;have h2:=HBK.out;rw[decide_eq_true this.1,decide_eq_true this.2] at h2;cases h2
        go_wp2_with fail
        go_ret
        exact⟨7,rfl,no_ (by decide) HNO.out,HW8.out⟩
       |true=>
        have x0:=HE8.out.cell 0 rfl
        have HKD:Hid (1<=kd/\kd<=3):=h_ (by have h2:=HBK.out.symm;simpa using h2)
        have HN:=h_ (HST.out ⟨HNB.out,HKD.out⟩ HIN.out)
        go_upto_region 14 with(at_lookup;refine wpList_lookup_own_int _ rfl _ _ 215 rfl 9 3 .i64 keyS Tryz.underlying215 Tryz.underlying3 (a2S _) w1.heap.size (k+1) _ rfl HM8.out _ _ rfl HKY.out ?_;intro c hat hwc;obtain rfl:c=1:=a2Y (hat.symm.trans (Go.Maps.atKey_put_same (b2E _) (by simp[Go.WideAt.IsKeyLit]) _ _)))
        have HMF:Hid (w8.ownsMap Tryz.prog 9 (plainElem Tryz.prog 3) w1.heap.size (k+1) (b2s ((L.take (k+1)).map (·.nm)))):=h_ (by rw[HTK.out,b8g];exact HM8.out)
        go_wp2_with fail
        go_roundw
        case rel=>exact⟨k+1,by omega,by go_num,HN,HMF.out,HBB8.out,HS8.out⟩
        case measure=>simp[intOf];omega
    ·obtain rfl:k=L.length:=by omega
     have d1:decide ((L.length:Int)<(L.length:Int))=false:=decide_eq_false (by omega)
     have HY:Hid (a0f L):=h_ ⟨HLN.out,fun c hc=>by
      obtain⟨i,hi,rfl⟩:=List.getElem_of_mem hc
      exact(HR.out i hi hi).1,a5T.2 fun j h=>(HR.out j h h).2⟩
     go_wp2_with fail
     go_ret
     exact⟨0,rfl,b1u HY.out,HWr.out⟩
theorem b6V{n:Nat}{F:List Int}{q:Nat}(h:q<F.length):a2R n F q h↔exB F[q] n=true/\F[q] ∉ F.take q:=by
 constructor
 ·intro⟨h1,h2⟩
  refine⟨h1,fun hm=>?_⟩
  obtain⟨i,hi,e⟩:=List.getElem_of_mem hm
  rw[List.length_take] at hi
  rw[List.getElem_take] at e
  exact h2 i (by omega) e
 ·intro⟨h1,h2⟩
  exact⟨h1,fun p hp e=>h2 (List.mem_iff_getElem.2 ⟨p,by rw[List.length_take];omega,by rw[List.getElem_take];exact e⟩)⟩
theorem wf_i64{n:Int}(h:-9223372036854775808<=n/\n<=9223372036854775807):(Lit.int .i64 n).wf=true:=by
 unfold Lit.wf
 rw[Bool.and_eq_true]
 exact⟨decide_eq_true (show(-9223372036854775808:Int)<=n from h.1),decide_eq_true (show n<=(9223372036854775807:Int) from h.2)⟩
theorem a9L(L:List Col)(Fs:List Fkey)(tn:S)(a a2 a3 a4:Option Addr)(m n2 m2 m3 n4 m4:Nat)(w:World)(ht:Ax.a0O w)(hfl:∀f∈Fs,f.cols.length<=1099511627776 /\ ∀c∈f.cols,-9223372036854775808<=c/\c<=9223372036854775807)(hf:FL w Fs (.slice a3 Fs.length m3)):Calls Tryz.prog 124 #[.agg #[.string ⟨tn.toArray⟩,.slice a L.length m,.slice a2 n2 m2,.slice a3 Fs.length m3,.slice a4 n4 m4]] w (a1J w (a0T L.length Fs)):=by
 have HMM:=h_ (@run_makeMap Tryz.prog)
 have HF:=h_ hf
 have HFL:=h_ hfl
 have HT:=h_ fun(w':World) (hw':Below w.heap.size w w')=>Ax.n_ ht hw'
 clear hf hfl ht
 go_enter Tryz.func124,Tryz.ntmps124
 go_upto_region 1 with(fail)
 refine nA fun w1 hB0 hw1 hz1=>?_
 have HB0:=h_ hB0
 have HW1:=h_ hw1
 have p3:=hB0.cell 3 rfl
 clear hB0 hw1 hz1
 by_cases h4:(4:Int)<(Fs.length:Int)
 ·have HNO:Hid (¬a0T L.length Fs):=h_ fun h=>by have:=h.1;omega
  go_wp2_with fail
  go_ret
  exact⟨5,rfl,no_ (by decide) HNO.out,HW1.out⟩
 ·have HF4:Hid (Fs.length<=4):=h_ (by omega)
  go_upto_region 4 with(fail)
  clear p3 h4
  go_loopw [4,5,7,15] (fun _ _ _ i wr=>∃k:Nat,k<=Fs.length/\i=.int .i64 (k:Int)/\Hid (∀j (h:j<Fs.length),j<k->a2h L.length Fs[j].cols Fs[j].tb)/\Below w1.heap.size w1 wr) (fun _ _ _ i _=>Fs.length - (intOf i).toNat)
  case atStart=>exact⟨0,Nat.zero_le _,rfl,h_ (fun j h hj=>absurd hj (by omega)),Below.refl _ _⟩
  case round=>
   obtain⟨k,hkk,rfl,HR,hb⟩:=hrel
   have HB2:=h_ (HB0.out.below hb)
   have HBB:=h_ hb
   have HWr:=t_ HW1 hb
   clear hb
   by_cases hlt:k<Fs.length
   ·have hF4:=HF4.out
    have k1:(k:Int)<(Fs.length:Int):=by omega
    have k0:(0:Int)<=(k:Int):=by omega
    obtain⟨g,o,eq,hxx,b,c,hec,hil⟩:=HF.out.at_ hlt
    subst eq
    have hfk:=HFL.out _ (List.getElem_mem hxx)
    have c0:=hec.at0 HWr.out rfl
    have c1:=hec.at_ HWr.out (j:=1) rfl
    have HNF:Hid (¬a2h L.length Fs[k].cols Fs[k].tb -> ¬a0T L.length Fs):=h_ fun h h2=>h (h2.2 _ (List.getElem_mem hxx))
    have HSF:Hid (a2h L.length Fs[k].cols Fs[k].tb -> ∀j (h:j<Fs.length),j<k+1->a2h L.length Fs[j].cols Fs[j].tb):=h_ fun h j hj hjk=>by
     by_cases e:j=k
     ·subst e;exact h
     ·exact HR.out j hj (by omega)
    have HIL:=h_ hil
    clear hec hil
    generalize Fs[k].cols=Fc at c0 HNF HSF HIL hfk
    generalize Fs[k].tb=tb at c1 HNF HSF
    have HFR:=h_ hfk.2
    have hfl:=hfk.1
    clear hfk
    go_upto_region 6 with(fail)
    refine nA fun w4 hE hw4 hz4=>?_
    have HE4:=h_ hE
    have HB4:=h_ (HB2.out.below hw4)
    have HBB4:=t_ HBB hw4
    have HW4:=t_ HWr hw4
    clear hE hw4 hz4 c0 c1
    have x1:=HE4.out.cell 1 rfl
    go_wp2_with fail
    refine(a3W tb w4 (HT.out w4 HW4.out)).mono ?_
    rintro e w5 ⟨rfl,hw5⟩
    have HE5:=h_ (HE4.out.below hw5)
    have HB5:=h_ (HB4.out.below hw5)
    have HBB5:=t_ HBB4 hw5
    have HW5:=t_ HW4 hw5
    clear hw5 x1
    cases hnb:nameB tb with
    |false=>
     have HNO:=h_ (HNF.out fun h=>by have:=h.1;rw[hnb] at this;cases this)
     go_wp2_with fail
     go_ret
     exact⟨1,rfl,no_ (by decide) HNO.out,HW5.out⟩
    |true=>
     have HNB:=h_ hnb
     clear hnb
     have hmm:=HMM.out
     go_upto_region 9 with(fail)
     clear hmm
     refine b7y (K:=Code.wp _ _ _ _) fun w6 hM hw6 hz6=>?_
     have HM6:=h_ hM
     have HE6:=h_ (HE5.out.below hw6)
     have HB6:=h_ hw6
     have HXM:Hid (wr.heap.size<w5.heap.size):=h_ HE5.out.lt
     have HTM:Hid (w.heap.size<w5.heap.size):=h_ HB5.out.lt
     have HBE:Hid (w5.heap.size<w6.heap.size):=h_ (by omega)
     clear hM hw6 hz6
     have x0:=HE6.out.cell 0 rfl
     go_upto_region 10 with(fail)
     clear x0
     obtain⟨wo,ewo⟩:∃wo,wo=wr:=⟨_,rfl⟩
     subst ewo
     go_loopw [7,27] (fun _ i ws=>∃q:Nat,q<=Fc.length/\i=.int .i64 (q:Int)/\Hid (∀j (h:j<Fc.length),j<q->a2R L.length Fc j h)/\ws.ownsMap Tryz.prog 3 (plainElem Tryz.prog 3) w5.heap.size q (a5K (Fc.take q))/\Below w5.heap.size w5 ws/\w6.heap.size<=ws.heap.size) (fun _ i _=>Fc.length - (intOf i).toNat)
     case atStart=>exact⟨0,Nat.zero_le _,rfl,h_ (fun j h hj=>absurd hj (by omega)),HM6.out,HB6.out,Nat.le_refl _⟩
     case round=>
      obtain⟨q,hqq,rfl,HRQ,hmp,hb,hsz⟩:=hrel
      have HMr:=h_ hmp
      have HXr:=h_ (HE5.out.below hb)
      have HTr:=h_ (HB5.out.below hb)
      have HBr:=h_ hb
      have HSr:=h_ hsz
      have HWs:=t_ HW5 hb
      clear hb hmp hsz
      by_cases hlq:q<Fc.length
      ·have q1:(q:Int)<(Fc.length:Int):=by omega
       have q0:(0:Int)<=(q:Int):=by omega
       have HKL:Hid (q<1099511627776):=h_ (by omega)
       obtain⟨g2,o2,eq2,hx2,hec2⟩:=HIL.out.at_ hlq
       subst eq2
       have e0:wr.cell? ⟨g2,o2+q,none⟩=some (.int .i64 Fc[q]):=by simpa using hec2.at0 HWs.out rfl
       have HKY:Hid (keyOf Tryz.prog 3 (.int .i64 Fc[q])=some (.int .i64 Fc[q])):=h_ (Go.Maps.keyOf_int_mk Tryz.underlying3 (wf_i64 (HFR.out _ (List.getElem_mem hx2))))
       have HNK:Hid (¬a2R L.length Fc q hx2 -> ¬a0T L.length Fs):=h_ fun h=>HNF.out fun h2=>h (h2.2.2 q hx2)
       have HST:Hid (a2R L.length Fc q hx2 -> ∀j (h:j<Fc.length),j<q+1->a2R L.length Fc j h):=h_ fun h j hj hjk=>by
        by_cases e:j=q
        ·subst e;exact h
        ·exact HRQ.out j hj (by omega)
       have HAT:Hid (a2R L.length Fc q hx2↔exB Fc[q] L.length=true/\Fc[q] ∉ Fc.take q):=h_ (b6V hx2)
       have HTK:Hid (Fc.take (q+1)=Fc.take q++[Fc[q]]):=h_ (by rw[List.take_add_one,List.getElem?_eq_getElem hx2];rfl)
       have HEC:Hid (∀w',Calls Tryz.prog 200 #[.agg #[.string ⟨tn.toArray⟩,.slice a L.length m,.slice a2 n2 m2,.slice (some ⟨g,o,none⟩) Fs.length m3,.slice a4 n4 m4],.int .i64 Fc[q]] w' (Ret w' (.bool (exB Fc[q] L.length)))):=h_ fun w'=>b1j L tn a a2 _ a4 m n2 m2 Fs.length m3 n4 m4 Fc[q] w'
       clear hec2
       generalize a2R L.length Fc q hx2=CA at HNK HST HAT
       generalize Fc.take q=ms at HMr HAT HTK
       generalize Fc[q]=cv at e0 HKY HAT HTK HEC
       generalize exB cv L.length=bx at HAT HEC
       go_upto_region 12 with(fail)
       clear e0
       by_cases hin:cv∈ms
       ·have HIN:=h_ hin
        clear hin
        go_upto_region 13 with(first
         |(at_lookup;refine wpList_lookup_own_int _ rfl _ _ 217 rfl 3 3 .i64 b7v Tryz.underlying217 Tryz.underlying3 (a2S _) w5.heap.size q _ rfl HMr.out _ _ rfl HKY.out ?_;intro c hat hwc;obtain rfl:c=1:=a2Y (hat.symm.trans (b7Q HIN.out _)))
         |(at_mapUpdate;refine wpList_mapUpdate_own _ rfl _ _ _ 217 rfl 3 3 b7v Tryz.underlying217 _ w5.heap.size q _ rfl HMr.out (by have:=HKL.out;unfold maxLen;omega) _ _ _ rfl rfl HKY.out _ [] (plainElem_int Tryz.underlying3 (by first|rfl|decide)) ?_;intro w8 hown6 hgrow6))
        have HM8:=h_ hown6
        have HX8:=h_ (HXr.out.grown hgrow6 (by have:=HXM.out;omega))
        have HT8:=h_ (HTr.out.grown hgrow6 (by have:=HTM.out;omega))
        have HBB8:=h_ (HBr.out.grown hgrow6 HBr.out.size (fun g e=>by cases e;exact Nat.le_refl _))
        have HS8:=h_ (Nat.le_trans HSr.out hgrow6.size)
        clear hown6 hgrow6
        obtain⟨t0,t1,t2,t3,t4⟩:=HT8.out.c5
        go_wp2_with fail
        refine(HEC.out w8).mono ?_
        rintro e w9 ⟨rfl,hw9⟩
        have HM9:=h_ (HM8.out.kept (grown_below hw9 none) (by simp))
        have HBB9:=t_ HBB8 hw9
        have HS9:=h_ (Nat.le_trans HS8.out hw9.size)
        have HW9:=h_ (HW5.out.trans (HBB9.out.mono HW5.out.size))
        clear hw9 t0 t1 t2 t3 t4 HEC
        cases bx with
        |false=>
         have HNO:=h_ (HNK.out fun h=>by have:=(HAT.out.1 h).1;simp at this)
         go_wp2_with fail
         go_ret
         exact⟨25,rfl,no_ (by decide) HNO.out,HW9.out⟩
        |true=>
         have HNO:=h_ (HNK.out fun h=>(HAT.out.1 h).2 HIN.out)
         go_wp2_with (at_lookup;refine T_ rfl (wpList_lookup_own_int _ rfl _ _ 217 rfl 3 3 .i64 b7v Tryz.underlying217 Tryz.underlying3 (a2S _) w5.heap.size (q+1) _ rfl HM9.out _ _ rfl HKY.out ?_);intro c hat hwc;obtain rfl:c=2:=a2Y (hat.symm.trans (Go.Maps.atKey_put_same (b1l _) (by simp[Go.WideAt.IsKeyLit]) _ _)))
         go_ret
         exact⟨25,rfl,no_ (by decide) HNO.out,HW9.out⟩
       ·have HIN:=h_ hin
        clear hin
        go_upto_region 13 with(first
         |(at_lookup;refine wpList_lookup_own_int _ rfl _ _ 217 rfl 3 3 .i64 b7v Tryz.underlying217 Tryz.underlying3 (a2S _) w5.heap.size q _ rfl HMr.out _ _ rfl HKY.out ?_;intro c hat hwc;obtain rfl:c=0:=a2Y (hat.symm.trans (b9A HIN.out _)))
         |(at_mapUpdate;refine wpList_mapUpdate_own _ rfl _ _ _ 217 rfl 3 3 b7v Tryz.underlying217 _ w5.heap.size q _ rfl HMr.out (by have:=HKL.out;unfold maxLen;omega) _ _ _ rfl rfl HKY.out _ [] (plainElem_int Tryz.underlying3 (by first|rfl|decide)) ?_;intro w8 hown6 hgrow6))
        have HM8:=h_ hown6
        have HX8:=h_ (HXr.out.grown hgrow6 (by have:=HXM.out;omega))
        have HT8:=h_ (HTr.out.grown hgrow6 (by have:=HTM.out;omega))
        have HBB8:=h_ (HBr.out.grown hgrow6 HBr.out.size (fun g e=>by cases e;exact Nat.le_refl _))
        have HS8:=h_ (Nat.le_trans HSr.out hgrow6.size)
        clear hown6 hgrow6
        obtain⟨t0,t1,t2,t3,t4⟩:=HT8.out.c5
        go_wp2_with fail
        refine(HEC.out w8).mono ?_
        rintro e w9 ⟨rfl,hw9⟩
        have HM9:=h_ (HM8.out.kept (grown_below hw9 none) (by simp))
        have HBB9:=t_ HBB8 hw9
        have HS9:=h_ (Nat.le_trans HS8.out hw9.size)
        have HW9:=h_ (HW5.out.trans (HBB9.out.mono HW5.out.size))
        clear hw9 t0 t1 t2 t3 t4 HEC
        cases bx with
        |false=>
         have HNO:=h_ (HNK.out fun h=>by have:=(HAT.out.1 h).1;simp at this)
         go_wp2_with fail
         go_ret
         exact⟨25,rfl,no_ (by decide) HNO.out,HW9.out⟩
        |true=>
         have HN:=h_ (HST.out (HAT.out.2 ⟨by simp,HIN.out⟩))
         go_upto_region 15 with(at_lookup;refine T_ rfl (wpList_lookup_own_int _ rfl _ _ 217 rfl 3 3 .i64 b7v Tryz.underlying217 Tryz.underlying3 (a2S _) w5.heap.size (q+1) _ rfl HM9.out _ _ rfl HKY.out ?_);intro c hat hwc;obtain rfl:c=1:=a2Y (hat.symm.trans (Go.Maps.atKey_put_same (b1l _) (by simp[Go.WideAt.IsKeyLit]) _ _)))
         have HMF:Hid (w9.ownsMap Tryz.prog 3 (plainElem Tryz.prog 3) w5.heap.size (q+1) (a5K (Fc.take (q+1)))):=h_ (by rw[HTK.out,b5a];exact HM9.out)
         go_wp2_with fail
         go_roundw
         case rel=>exact⟨q+1,by omega,by go_num,HN,HMF.out,HBB9.out,HS9.out⟩
         case measure=>simp[intOf];omega
      ·obtain rfl:q=Fc.length:=by omega
       have d1:decide ((Fc.length:Int)<(Fc.length:Int))=false:=decide_eq_false (by omega)
       have x0:=HXr.out.cell 0 rfl
       have HBX:=h_ (HBB5.out.trans (HBr.out.mono HBB5.out.size))
       by_cases h0:Fc.length=0
       ·have HNO:=h_ (HNF.out fun h=>h.2.1 h0)
        have d0:((Fc.length:Int)==0)=true:=by simp[h0]
        have d0':(Fc.length==0)=true:=by simp[h0]
        have d0'':Fc.isEmpty=true:=by cases Fc;rfl;simp at h0
        clear h0
        go_wp2_with fail
        go_ret
        exact⟨25,rfl,no_ (by decide) HNO.out,HWs.out⟩
       ·have HN:=h_ (HSF.out ⟨HNB.out,h0,fun j h=>HRQ.out j h h⟩)
        have d0:((Fc.length:Int)==0)=false:=by rw[beq_eq_false_iff_ne];omega
        have d0':(Fc.length==0)=false:=by rw[beq_eq_false_iff_ne];omega
        have d0'':Fc.isEmpty=false:=by cases Fc;exact absurd rfl h0;rfl
        clear h0
        go_wp2_with fail
        go_roundw
        case rel=>exact⟨k+1,by omega,by go_num,HN,HBX.out⟩
        case measure=>simp[intOf];omega
   ·obtain rfl:k=Fs.length:=by omega
    have d1:decide ((Fs.length:Int)<(Fs.length:Int))=false:=decide_eq_false (by omega)
    have HY:Hid (a0T L.length Fs):=h_ ⟨HF4.out,fun f hf=>by
     obtain⟨i,hi,rfl⟩:=List.getElem_of_mem hf
     exact HR.out i hi hi⟩
    go_wp2_with fail
    go_ret
    exact⟨0,rfl,b1u HY.out,HWr.out⟩
theorem b3G(L:List Col)(tn:S)(a:Option Addr)(m:Nat)(v2 v3 v4:Value)(w:World)(hn:L.length<=1000000)(hl:CL w L (.slice a L.length m)):Calls Tryz.prog 202 #[.agg #[.string ⟨tn.toArray⟩,.slice a L.length m,v2,v3,v4]] w fun e w'=>∃ak c,e=.returned (.slice ak L.length c)/\SI w' (y_ L) ak/\Below w.heap.size w w':=by
 obtain⟨i0,hi0,hz0,hz1,hz2⟩:=info_parts a4L
 have HL:=h_ hl
 clear hl
 go_enter Tryz.func202,Tryz.ntmps202
 go_upto_region 1 with(fail)
 refine nA fun w1 hB0 hw1 hz1'=>?_
 have HB0:=h_ hB0
 have HW1:=h_ hw1
 clear hB0 hw1 hz1'
 have p1:=HB0.out.cell 1 rfl
 go_upto_region 3 with(fail)
 clear p1
 go_loopw [3,5,9] (fun v _ i wr=>∃(k:Nat),k<=L.length/\i=.int .i64 (k:Int)/\a0v w1.heap.size v (y_ (L.take k)) wr/\Below w1.heap.size w1 wr) (fun _ _ i _=>L.length - (intOf i).toNat)
 case atStart=>exact⟨0,Nat.zero_le _,rfl,a0v.nil _ _,Below.refl _ _⟩
 case round=>
  obtain⟨k,hk,rfl,ho,hb⟩:=hrel
  have HO:=h_ ho
  have HB1:=h_ hb
  have HWb:=t_ HW1 hb
  clear ho hb
  by_cases hlt:k<L.length
  ·obtain⟨g,o,rfl,hx,hc⟩:=HL.out.at_ hlt
   have c0:=hc.at0 HWb.out rfl
   have c1:=hc.at_ HWb.out (j:=1) rfl
   have c2:=hc.at_ HWb.out (j:=2) rfl
   have k0:(0:Int)<=(k:Int):=by omega
   have k1:(k:Int)<(L.length:Int):=by omega
   have HK:=h_ (a7S hlt)
   have hml:(y_ (L.take k)).length<=1000000:=by rw[a0Z,List.length_take];omega
   clear hc
   generalize y_ (L.take k)=mm at HK HO hml
   generalize L[k].kind=q1 at c1 HK
   generalize L[k].nm=nm at c0
   generalize L[k].nul=nl at c2
   go_upto_region 5 with(fail)
   refine nA fun w3 hE hw3 hz3=>?_
   have HO3:=h_ (HO.out.below hw3)
   have HB3:=t_ HB1 hw3
   have z1:=hE.cell 1 rfl
   have hlt2:∀g,u3.ownBlock=some g->w1.heap.size<=g:=fun g e=>(HO3.out.lt g e).1
   clear hE hw3 hz3 c0 c1 c2
   go_upto_region 6 with(at_builtin;refine wpList_append_own_at _ rfl (.tmp 13) (.tmp 16) 50 rfl w1.heap.size 3 i0 _ 1 8 Tryz.underlying50 hi0 hz0 hz1 hz2 rfl (by omega) u3 mm.length _ rfl (World.ownsRow.alloc HO3.out _) ⟨w3.heap.size,0,none⟩ 1 1 [.int .i64 q1] rfl rfl (a1d _ _ _) (fun u hu=>by obtain rfl:=List.mem_singleton.1 hu;rfl) (by unfold maxLen;omega) (by omega) (Nat.le_trans HB3.out.size (by simp)) ?_)
   intro v3' w5 hown3 hg3 _ hat3
   have hb5:Below w1.heap.size w1 w5:=(HB3.out.alloc HB3.out.size _).grown hg3 (Nat.le_trans HB3.out.size (by simp)) hlt2
   have HO5:Hid (a0v w1.heap.size v3' (mm++[q1]) w5):=h_ (a0v.snoc hown3)
   clear hown3 hg3 hat3
   go_wp2_with fail
   go_roundw
   case rel=>exact⟨k+1,by omega,by go_num,by rw[HK.out];exact HO5.out,hb5⟩
   case measure=>simp[intOf];omega
  ·obtain rfl:k=L.length:=by omega
   have d1:decide ((L.length:Int)<(L.length:Int))=false:=decide_eq_false (by omega)
   obtain⟨ak,ck,ev,hsi⟩:=HO.out.form
   rw[a0Z,List.length_take,Nat.min_self] at ev
   rw[List.take_length] at hsi
   have HSI:=h_ hsi
   subst ev
   clear HO hsi
   go_wp2_with fail
   go_ret
   exact⟨ak,ck,rfl,HSI.out,HWb.out⟩
theorem b1Z(L:List Col)(Cs:List X)(tn:S)(a a2 a3 a4:Option Addr)(m n2 m2 n3 m3 m4:Nat)(w:World)(hL:L.length<=1000000)(hcs:∀x∈Cs,nodes x<=1000000/\D_ x)(hl:CL w L (.slice a L.length m))(hx:XL w Cs (.slice a4 Cs.length m4)):Calls Tryz.prog 125 #[.agg #[.string ⟨tn.toArray⟩,.slice a L.length m,.slice a2 n2 m2,.slice a3 n3 m3,.slice a4 Cs.length m4]] w (a1J w (a3d (y_ L) Cs)):=by
 have HL:=h_ hl
 have HX:=h_ hx
 have HCS:=h_ hcs
 clear hl hx hcs
 go_enter Tryz.func125,Tryz.ntmps125
 go_upto_region 1 with(fail)
 refine nA fun w1 hB0 hw1 hz1=>?_
 have HB0:=h_ hB0
 have HW1:=h_ hw1
 have p4:=hB0.cell 4 rfl
 clear hB0 hw1 hz1
 by_cases h4:(4:Int)<(Cs.length:Int)
 ·have HNO:Hid (¬a3d (y_ L) Cs):=h_ fun h=>by have:=h.1;omega
  go_wp2_with fail
  go_ret
  exact⟨5,rfl,no_ (by decide) HNO.out,HW1.out⟩
 ·have HC4:Hid (Cs.length<=4):=h_ (by omega)
  go_upto_region 4 with(fail)
  clear p4 h4
  go_loopw [4,5,6,14] (fun _ _ _ i wr=>∃k:Nat,k<=Cs.length/\i=.int .i64 (k:Int)/\Hid (∀j (h:j<Cs.length),j<k->a3p (y_ L) Cs[j])/\Below w1.heap.size w1 wr) (fun _ _ _ i _=>Cs.length - (intOf i).toNat)
  case atStart=>exact⟨0,Nat.zero_le _,rfl,h_ (fun j h hj=>absurd hj (by omega)),Below.refl _ _⟩
  case round=>
   obtain⟨k,hkk,rfl,HRC,hb⟩:=hrel
   have HBr:=h_ (HB0.out.below hb)
   have HBB:=h_ hb
   have HWr:=t_ HW1 hb
   clear hb
   have k0:(0:Int)<=(k:Int):=by omega
   by_cases hlt:k<Cs.length
   ·have k1:(k:Int)<(Cs.length:Int):=by omega
    have HC4':=HC4.out
    obtain⟨g,o,us,eq,hgl,hcell,hxx,hxr⟩:=HX.out.at_ hlt
    subst eq
    have hnx:=HCS.out _ (List.getElem_mem hxx)
    have HKC:Hid (EC w g (o+k*7) us):=h_ ⟨hgl,hcell⟩
    have HCH:Hid (∀(w8:World) (ak:Option Addr) (ck:Nat),Below w.heap.size w w8->SI w8 (y_ L) ak->Calls Tryz.prog 201 #[.agg us.toArray,.slice ak L.length ck] w8 (Ret w8 (a2m (chk (y_ L) Cs[k])))):=h_ fun w8 ak ck h1 h2=>by
     have h9:=b2O Cs[k] us w8 (y_ L) ak ck hnx.1 hnx.2 (by rw[a0Z];exact hL) h2 (hxr.kept h1 (Nat.le_refl _))
     rw[a0Z] at h9
     exact h9
    clear hcell hnx
    have HNK:Hid (¬a3p (y_ L) Cs[k] -> ¬a3d (y_ L) Cs):=h_ fun h h2=>h (h2.2 _ (List.getElem_mem hxx))
    have HST:Hid (a3p (y_ L) Cs[k] -> ∀j (h:j<Cs.length),j<k+1->a3p (y_ L) Cs[j]):=h_ fun h j hj hjk=>by
     by_cases e:j=k
     ·subst e;exact h
     ·exact HRC.out j hj (by omega)
    have HAT:Hid (a3p (y_ L) Cs[k]↔(chk (y_ L) Cs[k]).2=0/\((chk (y_ L) Cs[k]).1=3\/(chk (y_ L) Cs[k]).1=0)):=h_ Iff.rfl
    generalize a3p (y_ L) Cs[k]=CO at HNK HST HAT
    generalize Cs[k]=x at hxr HCH HAT
    generalize chk (y_ L) x=R at HCH HAT
    obtain⟨R1,R2⟩:=R
    obtain⟨op,int,vk,vi,vs,nm,l⟩:=x
    obtain⟨ax,mx,rfl,_⟩:=hxr.lits
    clear hxr hgl
    obtain⟨e0,e1,e2,e3,e4,e5,e6⟩:=HKC.out.c7 HWr.out
    unfold a2m at HCH
    go_upto_region 6 with(fail)
    refine nA fun w3 hE hw3 hz3=>?_
    have HE3:=h_ hE
    have HB3:=h_ (HBr.out.below hw3)
    have HW3:=t_ HWr hw3
    have HBB3:=t_ HBB hw3
    clear hE hw3 hz3 e0 e1 e2 e3 e4 e5 e6
    obtain⟨t0,t1,t2,t3,t4⟩:=HB3.out.c5
    obtain⟨e0,e1,e2,e3,e4,e5,e6⟩:=HE3.out.c7
    have hgd:Below w.heap.size w w3.drew:=Y_ HW3.out
    go_cut [5,6] (fun v5 v6 wx=>v5=.int .i64 R1/\v6=.int .i64 R2/\Below w3.heap.size w3 wx)
    case first=>
     go_region_law (first|(go_simp;go_at_call 202;refine(b3G L tn a m _ _ _ w3.drew hL (HL.out.kept hgd (Nat.le_refl _))).mono ?_;rintro e w8 ⟨ak,c8,rfl,hs8,hw8⟩;have hb8:Below w3.heap.size w3 w8:=N_ hw8;have hq8:=HE3.out.below hb8;have hy8:=HW3.out.trans (hb8.mono HW3.out.size);have HC8:=HCH.out w8 ak c8 hy8 hs8;have e0:=hq8.cell 0 rfl;have e1:=hq8.cell 1 rfl;have e2:=hq8.cell 2 rfl;have e3:=hq8.cell 3 rfl;have e4:=hq8.cell 4 rfl;have e5:=hq8.cell 5 rfl;have e6:=hq8.cell 6 rfl;clear hq8 hw8 hs8)|(go_simp;go_at_call 201;refine HC8.mono ?_;intro e w9 hp;obtain⟨hp,hw9⟩:=hp;obtain rfl:=hp))
     all_goals
      have HHW:=h_ (hb8.trans (hw9.mono hb8.size))
      clear hb8 hw9 hy8 hgd HC8 t0 t1 t2 t3 t4 e0 e1 e2 e3 e4 e5 e6
      go_wp2_with fail
      go_meet
      exact⟨rfl,rfl,HHW.out⟩
    case rest=>
     obtain⟨rfl,rfl,hwr⟩:=hcut
     have HW9:=t_ HW3 hwr
     have HBB9:=t_ HBB3 hwr
     clear hwr hgd t0 t1 t2 t3 t4 e0 e1 e2 e3 e4 e5 e6
     by_cases hq:R2=0
     ·by_cases r3:R1=3
      ·have HN:=h_ (HST.out (HAT.out.2 ⟨hq,.inl r3⟩))
       subst r3 hq
       clear HAT HCH
       go_wp2_with fail
       go_roundw
       case rel=>exact⟨k+1,by omega,by go_num,HN,HBB9.out⟩
       case measure=>simp[intOf];omega
      ·have d3:(R1 != 3)=true:=by simp[r3]
       by_cases r0:R1=0
       ·have HN:=h_ (HST.out (HAT.out.2 ⟨hq,.inr r0⟩))
        subst r0 hq
        clear HAT HCH
        go_wp2_with fail
        go_roundw
        case rel=>exact⟨k+1,by omega,by go_num,HN,HBB9.out⟩
        case measure=>simp[intOf];omega
       ·have d0:(R1 != 0)=true:=by simp[r0]
        have HNO:=h_ (HNK.out fun h=>by rcases(HAT.out.1 h).2 with e|e<;>omega)
        subst hq
        clear HAT HCH
        go_wp2_with fail
        go_ret
        exact⟨7,rfl,no_ (by decide) HNO.out,HW9.out⟩
     ·have dq:(R2 != 0)=true:=by simp[hq]
      have HNO:=h_ (HNK.out fun h=>hq (HAT.out.1 h).1)
      have HQN:=h_ hq
      clear HAT HCH
      go_wp2_with fail
      go_ret
      exact⟨R2,rfl,no_ HQN.out HNO.out,HW9.out⟩
   ·obtain rfl:k=Cs.length:=by omega
    have d1:decide ((Cs.length:Int)<(Cs.length:Int))=false:=decide_eq_false (by omega)
    have HY:Hid (a3d (y_ L) Cs):=h_ ⟨HC4.out,fun x hx=>by
     obtain⟨i,hi,rfl⟩:=List.getElem_of_mem hx
     exact HRC.out i hi hi⟩
    go_wp2_with fail
    go_ret
    exact⟨0,rfl,b1u HY.out,HWr.out⟩
theorem b4e(L:List Col)(Ks:List Int)(Fs:List Fkey)(Cs:List X)(tn:S)(a a2 a3 a4:Option Addr)(m m2 m3 m4:Nat)(w:World)(ht:Ax.a0O w)(hL:L.length<=1000000)(hK:Ks.length<=1099511627776)(hfl:∀f∈Fs,f.cols.length<=1099511627776 /\ ∀c∈f.cols,-9223372036854775808<=c/\c<=9223372036854775807)(hcs:∀x∈Cs,nodes x<=1000000/\D_ x)(hl:CL w L (.slice a L.length m))(hi:IL w Ks (.slice a2 Ks.length m2))(hf:FL w Fs (.slice a3 Fs.length m3))(hx:XL w Cs (.slice a4 Cs.length m4)):Calls Tryz.prog 53 #[.agg #[.string ⟨tn.toArray⟩,.slice a L.length m,.slice a2 Ks.length m2,.slice a3 Fs.length m3,.slice a4 Cs.length m4]] w (a1J w (a1D ⟨tn,L,Ks,Fs,Cs⟩)):=by
 have HC:=h_ fun(w':World) (hw':Below w.heap.size w w')=>b5r L tn a a2 a3 a4 m Ks.length m2 Fs.length m3 Cs.length m4 w' (Ax.n_ ht hw') hL (hl.kept hw' (Nat.le_refl _))
 have HK:=h_ fun(w':World) (hw':Below w.heap.size w w')=>b7P L Ks tn a a2 a3 a4 m m2 Fs.length m3 Cs.length m4 w' hL hK (hl.kept hw' (Nat.le_refl _)) (hi.kept hw' (Nat.le_refl _))
 have HF:=h_ fun(w':World) (hw':Below w.heap.size w w')=>a9L L Fs tn a a2 a3 a4 m Ks.length m2 m3 Cs.length m4 w' (Ax.n_ ht hw') hfl (hf.kept hw' (Nat.le_refl _))
 have HX:=h_ fun(w':World) (hw':Below w.heap.size w w')=>b1Z L Cs tn a a2 a3 a4 m Ks.length m2 Fs.length m3 m4 w' hL hcs (hl.kept hw' (Nat.le_refl _)) (hx.kept hw' (Nat.le_refl _))
 have HT:=h_ fun(w':World) (hw':Below w.heap.size w w')=>Ax.n_ ht hw'
 clear hL hK hfl hcs hl hi hf hx ht
 go_enter Tryz.func53,Tryz.ntmps53
 go_upto_region 1 with(fail)
 refine nA fun w1 hB0 hw1 hz1=>?_
 have HB0:=h_ hB0
 have HW1:=h_ hw1
 have p0:=hB0.cell 0 rfl
 clear hB0 hw1 hz1
 go_wp2_with fail
 refine(a3W tn w1 (HT.out w1 HW1.out)).mono ?_
 rintro e w2 ⟨rfl,hw2⟩
 have HB2:=h_ (HB0.out.below hw2)
 have HW2:=t_ HW1 hw2
 clear hw2 p0
 cases hnb:nameB tn with
 |false=>
  have HNO:Hid (¬(a1D ⟨tn,L,Ks,Fs,Cs⟩)):=h_ fun h=>by have h1:nameB tn=true:=h.1;rw[hnb] at h1;cases h1
  go_wp2_with fail
  go_ret
  exact⟨1,rfl,no_ (by decide) HNO.out,HW2.out⟩
 |true=>
  have HNB:=h_ hnb
  clear hnb
  go_upto_region 4 with(fail)
  refine nA fun w3 hS hw3 hz3=>?_
  have HS3:=h_ hS
  have HB3:=h_ (HB2.out.below hw3)
  have HW3:=t_ HW2 hw3
  clear hS hw3 hz3 HB2
  refine wp_loop_rounds 5 ?_
  rw[rounds_succ]
  have s0:=HS3.out.cell 0 rfl
  obtain⟨t0,t1,t2,t3,t4⟩:=HB3.out.c5
  go_wp2_with fail
  refine(HC.out w3 HW3.out).mono ?_
  rintro e w4 ⟨q,rfl,hq4,hw4⟩
  have HQ4:=h_ hq4
  have HS4:=h_ (HS3.out.below hw4)
  have HB4:=h_ (HB3.out.below hw4)
  have HW4:=t_ HW3 hw4
  clear hq4 hw4 s0 t0 t1 t2 t3 t4
  by_cases hq:q ≠ 0
  ·have dq:(q != 0)=true:=by simp[hq]
   have HNO:Hid (¬(a1D ⟨tn,L,Ks,Fs,Cs⟩)):=h_ (fun h=>hq (HQ4.out.2 h.2.1))
   have HQN:=h_ hq
   clear hq HQ4
   go_wp2_with fail
   go_ret
   exact⟨q,rfl,no_ HQN.out HNO.out,HW4.out⟩
  obtain rfl:q=0:=by omega
  have HY4:=h_ (HQ4.out.1 rfl)
  clear hq
  clear HQ4
  go_wp2_with fail
  rw[rounds_succ]
  have s1:=HS4.out.cell 1 rfl
  obtain⟨t0,t1,t2,t3,t4⟩:=HB4.out.c5
  go_wp2_with fail
  refine(HK.out w4 HW4.out).mono ?_
  rintro e w5 ⟨q,rfl,hq5,hw5⟩
  have HQ5:=h_ hq5
  have HS5:=h_ (HS4.out.below hw5)
  have HB5:=h_ (HB4.out.below hw5)
  have HW5:=t_ HW4 hw5
  clear hq5 hw5 s1 t0 t1 t2 t3 t4
  by_cases hq:q ≠ 0
  ·have dq:(q != 0)=true:=by simp[hq]
   have HNO:Hid (¬(a1D ⟨tn,L,Ks,Fs,Cs⟩)):=h_ (fun h=>hq (HQ5.out.2 h.2.2.1))
   have HQN:=h_ hq
   clear hq HQ5
   go_wp2_with fail
   go_ret
   exact⟨q,rfl,no_ HQN.out HNO.out,HW5.out⟩
  obtain rfl:q=0:=by omega
  have HY5:=h_ (HQ5.out.1 rfl)
  clear hq
  clear HQ5
  go_wp2_with fail
  rw[rounds_succ]
  have s2:=HS5.out.cell 2 rfl
  obtain⟨t0,t1,t2,t3,t4⟩:=HB5.out.c5
  go_wp2_with fail
  refine(HF.out w5 HW5.out).mono ?_
  rintro e w6 ⟨q,rfl,hq6,hw6⟩
  have HQ6:=h_ hq6
  have HS6:=h_ (HS5.out.below hw6)
  have HB6:=h_ (HB5.out.below hw6)
  have HW6:=t_ HW5 hw6
  clear hq6 hw6 s2 t0 t1 t2 t3 t4
  by_cases hq:q ≠ 0
  ·have dq:(q != 0)=true:=by simp[hq]
   have HNO:Hid (¬(a1D ⟨tn,L,Ks,Fs,Cs⟩)):=h_ (fun h=>hq (HQ6.out.2 h.2.2.2.1))
   have HQN:=h_ hq
   clear hq HQ6
   go_wp2_with fail
   go_ret
   exact⟨q,rfl,no_ HQN.out HNO.out,HW6.out⟩
  obtain rfl:q=0:=by omega
  have HY6:=h_ (HQ6.out.1 rfl)
  clear hq
  clear HQ6
  go_wp2_with fail
  rw[rounds_succ]
  have s3:=HS6.out.cell 3 rfl
  obtain⟨t0,t1,t2,t3,t4⟩:=HB6.out.c5
  go_wp2_with fail
  refine(HX.out w6 HW6.out).mono ?_
  rintro e w7 ⟨q,rfl,hq7,hw7⟩
  have HQ7:=h_ hq7
  have HS7:=h_ (HS6.out.below hw7)
  have HB7:=h_ (HB6.out.below hw7)
  have HW7:=t_ HW6 hw7
  clear hq7 hw7 s3 t0 t1 t2 t3 t4
  by_cases hq:q ≠ 0
  ·have dq:(q != 0)=true:=by simp[hq]
   have HNO:Hid (¬(a1D ⟨tn,L,Ks,Fs,Cs⟩)):=h_ (fun h=>hq (HQ7.out.2 h.2.2.2.2))
   have HQN:=h_ hq
   clear hq HQ7
   go_wp2_with fail
   go_ret
   exact⟨q,rfl,no_ HQN.out HNO.out,HW7.out⟩
  obtain rfl:q=0:=by omega
  have HY7:=h_ (HQ7.out.1 rfl)
  clear hq
  clear HQ7
  go_wp2_with fail
  rw[rounds_succ]
  go_wp2_with fail
  go_ret
  exact⟨0,rfl,b1u ⟨HNB.out,HY4.out,HY5.out,HY6.out,HY7.out⟩,HW7.out⟩
end Go.Proofs.YtlimlmjljjmcpaaGreatDoor.Px
