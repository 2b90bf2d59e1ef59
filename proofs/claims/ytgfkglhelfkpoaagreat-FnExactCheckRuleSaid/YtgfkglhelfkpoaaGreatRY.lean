/- Texts put together: WPoly5, WPoly6, WPoly7, WPoly8, WPoly9. -/
import Derived.Test.YtgfkglhelfkpoaaGreatRX
import Derived.Test.YtgfkglhelfkpoaaGreatRH
import Derived.Test.YtgfkglhelfkpoaaGreatRD
set_option maxRecDepth 100000
set_option maxHeartbeats 4000000
open Go.Lib (hid)
namespace Go.Proofs.YtgfkglhelfkpoaaGreat
section
open Go.RowKit Plain
end
section
open Go.RowKit Plain
def cmpI (x y:Int):Int:=if x<y then -1 else if y<x then 1 else 0
theorem cmpI_any (x y:Int) (w:World):Calls Tryz.prog 238 #[.int .i64 x,.int .i64 y] w fun e w'=>e=.returned (.int .i64 (cmpI x y))∧w=w':=by
 by_cases h1:x<y
 ·have HV:Hid (cmpI x y=-1):=if_pos h1
  rw [HV.out]
  go_enter Tryz.func238,Tryz.ntmps238
  go_wp2
  go_ret
  exact ⟨rfl,rfl⟩
 ·by_cases h2:y<x
  ·have HV:Hid (cmpI x y=1):=by show _=_;unfold cmpI;rw [if_neg h1,if_pos h2]
   rw [HV.out]
   go_enter Tryz.func238,Tryz.ntmps238
   go_wp2
   go_ret
   exact ⟨rfl,rfl⟩
  ·have HV:Hid (cmpI x y=0):=by show _=_;unfold cmpI;rw [if_neg h1,if_neg h2]
   rw [HV.out]
   go_enter Tryz.func238,Tryz.ntmps238
   go_wp2
   go_ret
   exact ⟨rfl,rfl⟩
theorem cmpL_stepI {a b:List Int} {k:Nat} (hk:k<a.length) (hb:k<b.length):cmpL (a.drop k) (b.drop k)=if cmpI (cf a k) (cf b k)=0 then cmpL (a.drop (k+1)) (b.drop (k+1)) else cmpI (cf a k) (cf b k):=by
 rw [cmpL_step hk hb]
 unfold cmpI
 split
 ·rfl
 ·split
  ·rfl
  ·rfl
theorem compare_any (A B:Option Addr) (ca cb:Nat) (a b:List Int) (w:World) (hA:Ints w A a) (hB:Ints w B b) (hl:b.length=a.length) (ha:a.length≤9223372036854775807) :
  Calls Tryz.prog 179 #[.slice A a.length ca,.slice B a.length cb] w fun e w'=>e=.returned (.int .i64 (cmpL a b))∧w=w':=by
 have HA:=hid hA;clear hA
 have HB:=hid hB;clear hB
 have HL:=hid hl;clear hl
 go_enter Tryz.func179,Tryz.ntmps179
 go_wp2
 go_loop [11] (fun i=>∃ (k:Nat),k≤a.length∧i=.int .i64 (k:Int)∧Hid (cmpL (a.drop k) (b.drop k)=cmpL a b)) (fun i=>a.length - (intOf i).toNat)
 case atStart=>exact ⟨0,by omega,by go_num,rfl⟩
 case round=>
  obtain ⟨k,hk,rfl,HR⟩:=hrel
  by_cases hlt:k<a.length
  ·obtain ⟨ba,oa,rfl,_,hca⟩:=HA.out.cfAt (by omega)
   obtain ⟨bb,ob,rfl,_,hcb⟩:=HB.out.cfAt (by have:=HL.out;omega)
   have hc1:=hca k hlt
   have hc2:=hcb k (by have:=HL.out;omega)
   have HS:=hid (cmpL_stepI hlt (by have:=HL.out;omega:k<b.length))
   have hkl:(k:Int)<(a.length:Int):=by omega
   clear hca hcb
   generalize cf a k=x at *
   generalize cf b k=y at *
   have HC:=hid (cmpI_any x y w)
   by_cases h1:cmpI x y=0
   ·have HV:Hid (cmpL (a.drop (k+1)) (b.drop (k+1))=cmpL a b):=by show _=_;rw [←HR.out,HS.out,if_pos h1]
    rw [h1] at HC
    clear HS HR h1
    go_wp2_with (go_at_call 238;refine HC.out.mono ?_;rintro e w' ⟨rfl,rfl⟩)
    go_round
    case rel=>exact ⟨k+1,by omega,by go_num,HV.out⟩
    case measure=>simp [intOf];omega
   ·have HV:Hid (cmpL a b=cmpI x y):=by show _=_;rw [←HR.out,HS.out,if_neg h1]
    generalize cmpI x y=z at *
    have hz:(z==(0:Int))=false:=by simpa using h1
    clear HS HR h1
    go_wp2_with (go_at_call 238;refine HC.out.mono ?_;rintro e w' ⟨rfl,rfl⟩)
    go_ret
    exact ⟨ret_int HV.out.symm,rfl⟩
  ·obtain rfl:k=a.length:=by omega
   have HV:Hid (cmpL a b=0):=by
    show _=_
    rw [←HR.out,List.drop_length,←HL.out,List.drop_length];rfl
   clear HR
   go_wp2
   go_ret
   exact ⟨ret_int HV.out.symm,rfl⟩
theorem degree_any (A:Option Addr) (cap:Nat) (a:List Int) (c:Int) (w:World) (hA:Ints w A a) (ha:a.length≤12) (hok:expsOk a=true) :
  Calls Tryz.prog 280 #[.agg #[.slice A a.length cap,.int .i64 c]] w fun e w'=>e=.returned (.int .i64 (degL a a.length))∧Below w.heap.size w w':=by
 have HG:Hid (Below w.heap.size w (w.alloc (.cells #[.slice A a.length cap,.int .i64 c] 173))):=by show Below _ _ _;go_grown
 have HA:=hid (hA.below HG.out)
 have HOK:=hid hok
 clear hA hok
 go_enter Tryz.func280,Tryz.ntmps280
 go_wp2
 go_loop [3,9] (fun s i=>∃ (k:Nat),k≤a.length∧i=.int .i64 (k:Int)∧s=.int .i64 (degL a k)) (fun _ i=>a.length - (intOf i).toNat)
 case atStart=>exact ⟨0,by omega,by go_num,rfl⟩
 case round=>
  obtain ⟨k,hk,rfl,rfl⟩:=hrel
  have hb:=degL_bd HOK.out k
  have hb0:=hb.1
  have hb1:degL a k≤144:=by omega
  by_cases hlt:k<a.length
  ·obtain ⟨ba,oa,rfl,_,hca⟩:=HA.out.cfAt (by omega)
   have hc1:=hca k hlt
   have hx:=expsOk_bd HOK.out k
   have hx0:=hx.1
   have hx1:=hx.2
   have hkl:(k:Int)<(a.length:Int):=by omega
   have HD:Hid (degL a (k+1)=degL a k+cf a k):=rfl
   clear hca hb hx
   generalize cf a k=x at *
   generalize degL a k=d at *
   go_wp2
   go_round
   case rel=>exact ⟨k+1,by omega,by go_num,by rw [HD.out]⟩
   case measure=>simp [intOf];omega
  ·obtain rfl:k=a.length:=by omega
   clear hb
   go_wp2
   go_ret
   exact ⟨rfl,HG.out⟩
theorem notExp (x:Int) (w:World):Calls Tryz.prog 281 #[.int .i64 x] w fun e w'=>e=.returned (.bool (!inR x 0 12))∧w=w':=by
 go_enter Tryz.func281,Tryz.ntmps281
 go_wp2_with fail
 refine (within_any _ _ _ _).mono ?_;rintro e w' ⟨rfl,rfl⟩
 go_wp2
 all_goals (go_ret;exact ⟨by simp [*],rfl⟩)
theorem any_notE {zs:List Int}:zs.any (fun x=>!inR x 0 12)=!expsOk zs:=by
 unfold expsOk
 induction zs with
 | nil=>rfl
 | cons x l ih=>simp only [List.any_cons,List.all_cons,ih,Bool.not_and]
theorem termOk_full {v:Int} {t:Term'} (h:(t.1.length:Int)=v) (h2:inR t.2 1 1000002=true):termOk v t=(expsOk t.1&&decide (degL t.1 t.1.length≤12)):=by unfold termOk;simp [h,h2]
end
section
open Go.RowKit Plain
theorem polyI_any (v:Int) (A:Option Addr) (cap:Nat) (ts:List Term') (w:World) (hT:TmsAt w A ts) (hm:ts.length≤1048576) (ht:totT ts≤1048576) :
  Calls Tryz.prog 266 #[poV v A ts.length cap] w fun e w'=>e=.returned (.bool (polyOk v ts))∧Below w.heap.size w w':=by
 have HG:Hid (Below w.heap.size w (w.alloc (.cells #[.int .i64 v,.slice A ts.length cap] 86))):=by show Below _ _ _;go_grown
 have HBX:Hid (Cells (w.alloc (.cells #[.int .i64 v,.slice A ts.length cap] 86)) w.heap.size 86 [.int .i64 v,.slice A ts.length cap]):=Cells.new w _ _
 have HT:=hid (hT.below HG.out)
 have HTT:=hid ht;clear ht hT
 cases hv:inR v 0 12
 ·have HE:=hid (polyOk_vars (ts:=ts) hv)
  rw [HE.out]
  have HV:=hid hv
  clear hv HE
  go_enter Tryz.func266,Tryz.ntmps266
  go_wp2_with (go_at_call 90;refine (within_any _ _ _ _).mono ?_;rintro e w' ⟨rfl,rfl⟩;rw [HV.out])
  go_ret
  exact ⟨rfl,HG.out⟩
 have HV:=hid hv
 by_cases hl:ts.length≤120
 case neg=>
  have HE:=hid (polyOk_len (v:=v) hl)
  rw [HE.out]
  clear hv HE
  go_enter Tryz.func266,Tryz.ntmps266
  go_wp2_with (go_at_call 90;refine (within_any _ _ _ _).mono ?_;rintro e w' ⟨rfl,rfl⟩;rw [HV.out])
  go_ret
  exact ⟨rfl,HG.out⟩
 have HE:=hid (polyOk_up hv hl)
 rw [HE.out]
 have hv12:=inR_true.1 hv
 have hv0:=hv12.1
 have hv1:=hv12.2
 clear hv HE hv12
 obtain ⟨W0,hW0⟩:∃ W0,W0=(w.alloc (.cells #[.int .i64 v,.slice A ts.length cap] 86)):=⟨_,rfl⟩
 have HW0:=hid hW0
 go_enter Tryz.func266,Tryz.ntmps266
 go_wp2_with (go_at_call 90;refine (within_any _ _ _ _).mono ?_;rintro e w' ⟨rfl,rfl⟩;rw [HV.out])
 rw [←HW0.out]
 rw [←hW0] at HBX HT HG
 clear hW0
 go_loopw [18] (fun i wr=>∃ k:Nat,k≤ts.length∧i=.int .i64 (k:Int)∧Hid (polyUp v ts k=true)∧Hid (Below W0.heap.size W0 wr)) (fun i _=>ts.length - (intOf i).toNat)
 case atStart=>exact ⟨0,by omega,by go_num,rfl,Below.refl _ _⟩
 case round=>
  obtain ⟨k,hk,rfl,HU,HB⟩:=hrel
  by_cases hlt:k<ts.length
  ·obtain ⟨bt,ot,Ai,ca,rfl,hbt,hc,hc2,hi,_⟩:=(HT.out.below HB.out).at_ hlt
   have hkl:(k:Int)<(ts.length:Int):=by omega
   have hBX:=HBX.out.below HB.out (by have:=HBX.out.lt;omega)
   have hzl:(tmAt ts k).1.length≤1048576:=Nat.le_trans (exps_le_tot hlt) HTT.out
   obtain ⟨x,hx⟩:∃ x,x=tmAt ts k:=⟨_,rfl⟩
   rw [←hx] at hc hc2 hi hzl
   obtain ⟨es,c⟩:=x
   simp only at hc hc2 hi hzl
   have HX:=hid hx
   have hg2:Below wr.heap.size wr (wr.alloc (.cells #[.slice Ai es.length ca,.int .i64 c] 173)):=by go_grown
   have hBX2:=hBX.below hg2 (by have:=hBX.lt;omega)
   have p0:(wr.alloc (.cells #[.slice Ai es.length ca,.int .i64 c] 173)).cell? ⟨w.heap.size,0,none⟩=some (.int .i64 v):=by rw [hBX2.cell];rfl
   have p1:(wr.alloc (.cells #[.slice Ai es.length ca,.int .i64 c] 173)).cell? ⟨w.heap.size,1,none⟩=some (.slice (some ⟨bt,ot,none⟩) ts.length cap):=by rw [hBX2.cell];rfl
   have HB2:=hid (bnext HB.out hg2)
   have HI2:=hid (hi.below hg2)
   have HUK:=HU.out
   clear hi hx
   obtain ⟨W2,hW2⟩:∃ W2,W2=(wr.alloc (.cells #[.slice Ai es.length ca,.int .i64 c] 173)):=⟨_,rfl⟩
   have HW2:=hid hW2
   have hC:=Cells.new wr 173 [.slice Ai es.length ca,.int .i64 c]
   rw [←hW2] at p0 p1 HB2 HI2
   have t0:W2.cell? ⟨wr.heap.size,0,none⟩=some (.slice Ai es.length ca):=by rw [hW2,hC.cell];rfl
   have t1:W2.cell? ⟨wr.heap.size,1,none⟩=some (.int .i64 c):=by rw [hW2,hC.cell];rfl
   have hcz:k=0→wr.cell? ⟨bt,ot,none⟩=some (.slice Ai es.length ca)∧wr.cell? ⟨bt,ot+1,none⟩=some (.int .i64 c):=fun h=>by subst h;simpa using And.intro hc hc2
   clear hBX hBX2 hg2 hW2 hC HUK
   by_cases hel:(es.length:Int)=v
   case neg=>
    have hd:((es.length:Int) != v)=true:=by simpa using hel
    have HF:=hid (polyUp_term (v:=v) (ts:=ts) (k:=k) (by rw [←HX.out];exact termOk_len hel) hlt)
    clear hel
    rcases Nat.eq_zero_or_pos k with hk0 | hk0
    ·subst hk0
     have z0:=(hcz rfl).1
     have z1:=(hcz rfl).2
     clear hc hc2 hcz
     go_wp2
     rw [←HW2.out]
     go_quiet (fail)
     go_wp2
     go_ret
     exact ⟨ret_bool HF.out.symm,bnext HG.out (below_drewN' HB2.out _)⟩
    ·clear hcz
     go_wp2
     rw [←HW2.out]
     go_quiet (fail)
     go_wp2
     go_ret
     exact ⟨ret_bool HF.out.symm,bnext HG.out (below_drewN' HB2.out _)⟩
   have hd:((es.length:Int) != v)=false:=by simpa using hel
   have HWI0:Hid (∀ n,Calls Tryz.prog 90 #[.int .i64 c,.int .i64 1,.int .i64 1000002] (W2.drewN n) fun e w'=>e=.returned (.bool (inR c 1 1000002))∧w'=W2.drewN n):=fun n=>
    (within_any c 1 1000002 (W2.drewN n)).mono fun e w' ⟨h1,h2⟩=>⟨h1,h2.symm⟩
   cases hcc:inR c 1 1000002
   ·have HF:=hid (polyUp_term (v:=v) (ts:=ts) (k:=k) (by rw [←HX.out];exact termOk_coef hcc) hlt)
    have HWI:Hid _:=HWI0
    rw [hcc] at HWI
    clear hel hcc HWI0
    rcases Nat.eq_zero_or_pos k with hk0 | hk0
    ·subst hk0
     have z0:=(hcz rfl).1
     have z1:=(hcz rfl).2
     clear hc hc2 hcz
     go_wp2
     rw [←HW2.out]
     go_quiet (first | (go_at_call 90;exact Calls.quiet_of_same (HWI.out _)))
     go_wp2
     go_ret
     exact ⟨ret_bool HF.out.symm,bnext HG.out (below_drewN' HB2.out _)⟩
    ·clear hcz
     go_wp2
     rw [←HW2.out]
     go_quiet (first | (go_at_call 90;exact Calls.quiet_of_same (HWI.out _)))
     go_wp2
     go_ret
     exact ⟨ret_bool HF.out.symm,bnext HG.out (below_drewN' HB2.out _)⟩
   have HWI:Hid _:=HWI0
   rw [hcc] at HWI
   have HTF:Hid (termOk v (tmAt ts k)=(expsOk es&&decide (degL es es.length≤12))):=by show _=_;rw [←HX.out];exact termOk_full hel hcc
   have hp:Hid (∀ x,Calls Tryz.prog 281 (#[.int .i64 x]++#[]) W2 fun e w'=>e=.returned (.bool ((fun x=>!inR x 0 12) x))∧W2=w'):=fun x=>notExp x W2
   have HCF:Hid (∀ n,Calls Tryz.prog 130 #[.slice Ai es.length ca,.func (.func 281) #[] #[]] (W2.drewN n) fun e w'=>e=.returned (.bool (!expsOk es))∧W2.drewN n=w'):=fun n=>
    (containsFuncI Ai ca es (W2.drewN n) HI2.out (by omega) 281 (enters Tryz.func281 (by kernel_rfl) rfl) #[] (fun x=>!inR x 0 12) (fun x=>notExp x _)).mono fun e w' ⟨h1,h2⟩=>⟨by rw [h1,any_notE],h2⟩
   have HDG:Hid (∀ n,expsOk es=true→Calls Tryz.prog 280 #[.agg #[.slice Ai es.length ca,.int .i64 c]] (W2.drewN n) fun e w'=>e=.returned (.int .i64 (degL es es.length))∧Below (W2.drewN n).heap.size (W2.drewN n) w'):=fun n h=>
    degree_any Ai ca es c (W2.drewN n) HI2.out (by omega) h
   clear hp HWI0 hcc
   obtain ⟨eo,heo⟩:∃ eo,eo=expsOk es:=⟨_,rfl⟩
   obtain ⟨dg,hdg⟩:∃ dg,dg=degL es es.length:=⟨_,rfl⟩
   rw [←heo] at HTF HCF HDG
   rw [←hdg] at HTF HDG
   have HDB:Hid (eo=true→0≤dg∧dg≤144):=fun h=>by
    have:=degL_bd (a:=es) (by rw [←heo];exact h) es.length
    rw [hdg];omega
   clear heo hdg
   rcases Nat.eq_zero_or_pos k with hk0 | hk0
   ·subst hk0
    have z0:=(hcz rfl).1
    have z1:=(hcz rfl).2
    clear hc hc2 hcz
    have HNX:Hid (termOk v (tmAt ts 0)=true→polyUp v ts (0+1)=true):=fun h=>polyUp_next HU.out h (Or.inl rfl)
    clear hel
    cases eo
    ·have HF:=hid (polyUp_term (v:=v) (ts:=ts) (k:=0) (by rw [HTF.out];rfl) hlt)
     go_wp2
     rw [←HW2.out]
     go_quiet (first | (go_at_call 90;exact Calls.quiet_of_same (HWI.out _)))
     have HCF1:=hid (HCF.out nq)
     go_wp2_with (go_at_call 130;refine HCF1.out.mono ?_;rintro e w' ⟨rfl,rfl⟩)
     go_ret
     exact ⟨ret_bool HF.out.symm,bnext HG.out (below_drewN' HB2.out _)⟩
    ·have hdb:=HDB.out rfl
     have hdb0:=hdb.1
     have hdb1:=hdb.2
     clear hdb
     by_cases hd12:dg≤12
     ·have HNX2:=hid (HNX.out (by rw [HTF.out];simpa using hd12))
      have hdd:decide (12<dg)=false:=by simp;omega
      go_wp2
      rw [←HW2.out]
      go_quiet (first | (go_at_call 90;exact Calls.quiet_of_same (HWI.out _)))
      have t0':(W2.drewN nq).cell? ⟨wr.heap.size,0,none⟩=some (.slice Ai es.length ca):=t0
      have t1':(W2.drewN nq).cell? ⟨wr.heap.size,1,none⟩=some (.int .i64 c):=t1
      have HCF1:=hid (HCF.out nq)
      have HDG1:=hid (HDG.out nq (by simp))
      go_wp2_with (first | (go_at_call 130;refine HCF1.out.mono ?_;rintro e w' ⟨rfl,rfl⟩) | (go_at_call 280;refine HDG1.out.mono ?_;rintro e w3 ⟨rfl,hb3⟩))
      have HB3:=hid (bnext (below_drewN' HB2.out nq) hb3)
      go_roundw
      case rel=>exact ⟨0+1,by omega,by go_num,HNX2.out,HB3.out⟩
      case measure=>simp [intOf];omega
     ·have HF:=hid (polyUp_term (v:=v) (ts:=ts) (k:=0) (by rw [HTF.out];simpa using hd12) hlt)
      have hdd:decide (12<dg)=true:=by simp;omega
      go_wp2
      rw [←HW2.out]
      go_quiet (first | (go_at_call 90;exact Calls.quiet_of_same (HWI.out _)))
      have t0':(W2.drewN nq).cell? ⟨wr.heap.size,0,none⟩=some (.slice Ai es.length ca):=t0
      have t1':(W2.drewN nq).cell? ⟨wr.heap.size,1,none⟩=some (.int .i64 c):=t1
      have HCF1:=hid (HCF.out nq)
      have HDG1:=hid (HDG.out nq (by simp))
      go_wp2_with (first | (go_at_call 130;refine HCF1.out.mono ?_;rintro e w' ⟨rfl,rfl⟩) | (go_at_call 280;refine HDG1.out.mono ?_;rintro e w3 ⟨rfl,hb3⟩))
      go_ret
      exact ⟨ret_bool HF.out.symm,bnext HG.out (bnext (below_drewN' HB2.out nq) hb3)⟩
   ·obtain ⟨bt',ot',Aj,cj,hAe,hbt',hdj,hdj2,hj,_⟩:=(HT.out.below HB.out).at_ (show k - 1<ts.length by omega)
    obtain ⟨rfl,rfl⟩:bt=bt'∧ot=ot':=by simpa using hAe
    have hpk:termOk v (tmAt ts (k - 1))=true:=by
     have h3:=HU.out
     obtain ⟨j,rfl⟩:∃ j,k=j+1:=⟨k - 1,by omega⟩
     simp only [polyUp,Bool.and_eq_true] at h3
     exact h3.2.1
    obtain ⟨i,hi1,hi2,hi3⟩:∃ i:Nat,((k:Int) - 1=i)∧i=k - 1∧i<ts.length:=⟨k - 1,by omega,rfl,by omega⟩
    have hkw:IntKind.i64.wrap ((k:Int) - 1)=i:=by rw [IntKind.wrap_i64];omega
    have hk1:0<(k:Int):=by omega
    rw [←hi2] at hdj hj hpk
    have hlj:es.length=(tmAt ts i).1.length:=by have:=(termOk_parts hpk).1;omega
    obtain ⟨pe,hpe⟩:∃ pe,pe=(tmAt ts i).1:=⟨_,rfl⟩
    rw [←hpe] at hdj hj hlj
    have HPE:=hid hpe
    have hdj':W2.cell? ⟨bt,ot+i*2,none⟩=some (.slice Aj es.length cj):=by
     rw [HW2.out,World.cell?_alloc_lt _ _ _ (World.block_lt_of_cell? _ _ hdj),hlj];exact hdj
    have HI2J:Hid (Ints W2 Aj pe):=by
     have hg3:Below wr.heap.size wr W2:=by rw [HW2.out];go_grown
     exact hj.below hg3
    have HCP:Hid (∀ n,Calls Tryz.prog 179 #[.slice Aj es.length cj,.slice Ai es.length ca] (W2.drewN n) fun e w'=>e=.returned (.int .i64 (cmpL pe es))∧w'=W2.drewN n):=fun n=>by
     have h1:=compare_any Aj Ai cj ca pe es (W2.drewN n) HI2J.out HI2.out hlj (by omega)
     rw [←hlj] at h1
     exact h1.mono fun e w' ⟨h1,h2⟩=>⟨h1,h2.symm⟩
    obtain ⟨z,hz⟩:∃ z,z=cmpL pe es:=⟨_,rfl⟩
    rw [←hz] at HCP
    have HZ:Hid (z=cmpL (tmAt ts (k - 1)).1 (tmAt ts k).1):=by show _=_;rw [hz,HPE.out,hi2,←HX.out]
    clear hcz hj hlj hpe hpk hdj hdj2 hz HPE HI2J hel hi1 hi2
    by_cases hz0:z<0
    ·have HNX:Hid (termOk v (tmAt ts k)=true→polyUp v ts (k+1)=true):=fun h=>polyUp_next HU.out h (Or.inr (by rw [←HZ.out];exact hz0))
     have hzd:decide (0≤z)=false:=by simp;omega
     clear HZ
     cases eo
     ·have HF:=hid (polyUp_term (v:=v) (ts:=ts) (k:=k) (by rw [HTF.out];rfl) hlt)
      go_wp2
      rw [←HW2.out]
      go_quiet (first | (go_at_call 90;exact Calls.quiet_of_same (HWI.out _)) | (go_at_call 179;exact Calls.quiet_of_same (HCP.out _)))
      have HCF1:=hid (HCF.out nq)
      go_wp2_with (go_at_call 130;refine HCF1.out.mono ?_;rintro e w' ⟨rfl,rfl⟩)
      go_ret
      exact ⟨ret_bool HF.out.symm,bnext HG.out (below_drewN' HB2.out _)⟩
     ·have hdb:=HDB.out rfl
      have hdb0:=hdb.1
      have hdb1:=hdb.2
      clear hdb
      by_cases hd12:dg≤12
      ·have HNX2:=hid (HNX.out (by rw [HTF.out];simpa using hd12))
       have hdd:decide (12<dg)=false:=by simp;omega
       go_wp2
       rw [←HW2.out]
       go_quiet (first | (go_at_call 90;exact Calls.quiet_of_same (HWI.out _)) | (go_at_call 179;exact Calls.quiet_of_same (HCP.out _)))
       have t0':(W2.drewN nq).cell? ⟨wr.heap.size,0,none⟩=some (.slice Ai es.length ca):=t0
       have t1':(W2.drewN nq).cell? ⟨wr.heap.size,1,none⟩=some (.int .i64 c):=t1
       have HCF1:=hid (HCF.out nq)
       have HDG1:=hid (HDG.out nq (by simp))
       go_wp2_with (first | (go_at_call 130;refine HCF1.out.mono ?_;rintro e w' ⟨rfl,rfl⟩) | (go_at_call 280;refine HDG1.out.mono ?_;rintro e w3 ⟨rfl,hb3⟩))
       have HB3:=hid (bnext (below_drewN' HB2.out nq) hb3)
       go_roundw
       case rel=>exact ⟨k+1,by omega,by go_num,HNX2.out,HB3.out⟩
       case measure=>simp [intOf];omega
      ·have HF:=hid (polyUp_term (v:=v) (ts:=ts) (k:=k) (by rw [HTF.out];simpa using hd12) hlt)
       have hdd:decide (12<dg)=true:=by simp;omega
       go_wp2
       rw [←HW2.out]
       go_quiet (first | (go_at_call 90;exact Calls.quiet_of_same (HWI.out _)) | (go_at_call 179;exact Calls.quiet_of_same (HCP.out _)))
       have t0':(W2.drewN nq).cell? ⟨wr.heap.size,0,none⟩=some (.slice Ai es.length ca):=t0
       have t1':(W2.drewN nq).cell? ⟨wr.heap.size,1,none⟩=some (.int .i64 c):=t1
       have HCF1:=hid (HCF.out nq)
       have HDG1:=hid (HDG.out nq (by simp))
       go_wp2_with (first | (go_at_call 130;refine HCF1.out.mono ?_;rintro e w' ⟨rfl,rfl⟩) | (go_at_call 280;refine HDG1.out.mono ?_;rintro e w3 ⟨rfl,hb3⟩))
       go_ret
       exact ⟨ret_bool HF.out.symm,bnext HG.out (bnext (below_drewN' HB2.out nq) hb3)⟩
    ·have HN:=hid (polyUp_ord (v:=v) hk0 (by rw [←HZ.out];exact hz0) hlt)
     have hzd:decide (0≤z)=true:=by simp;omega
     clear HZ
     go_wp2
     rw [←HW2.out]
     go_quiet (first | (go_at_call 90;exact Calls.quiet_of_same (HWI.out _)) | (go_at_call 179;exact Calls.quiet_of_same (HCP.out _)))
     go_wp2
     go_ret
     exact ⟨ret_bool HN.out.symm,bnext HG.out (below_drewN' HB2.out _)⟩
  ·obtain rfl:k=ts.length:=by omega
   go_wp2
   go_ret
   exact ⟨ret_bool HU.out.symm,bnext HG.out HB.out⟩
end
section
open Go.RowKit Plain
end
section
open Go.RowKit Plain
end
end Go.Proofs.YtgfkglhelfkpoaaGreat
