/- Texts put together: WOk7, WOk8, WOk9, WOk10. -/
import Derived.Test.YtgfkglhelfkpoaaGreatRE
set_option maxRecDepth 100000
set_option maxHeartbeats 4000000
open Go.Lib (hid)
namespace Go.Proofs.YtgfkglhelfkpoaaGreat
section
open Go.RowKit Plain
def SizeC (ks:Es):Prop:=∀ (k n p c:Int) (K:Option Addr) (cap B:Nat) (w:World),ExSl w B ks K→ks.len≤cap→cap≤maxLen→B≤w.heap.size→ks.size≤1048576 →
 Calls Tryz.prog 151 #[exV k n p c K ks.len cap] w fun e w'=>e=.returned (.int .i64 ((ks.size+1:Nat):Int))∧Below w.heap.size w w'
theorem size_any:∀ (m:Nat) (ks:Es),ks.size<m→SizeC ks:=by
 intro m
 induction m with
 | zero=>intro es h;omega
 | succ m ih=>
 intro ks hm k n p c K cap B w hKs hc hcm hB hsz0
 have IH:=hid ih;clear ih
 obtain ⟨b',o',hK,hks⟩:=hKs
 have HKS:=hid hks;clear hks
 have hcm':cap≤9223372036854775807:=by unfold maxLen at hcm;omega
 have hls:=Es.len_le_size ks
 go_enter Tryz.func151,Tryz.ntmps151
 go_wp2
 go_loopw [3,9] (fun ll i wr=>∃ (j:Nat) (es':Es) (y:Nat),i=.int .i64 (j:Int)∧ll=.int .i64 (y:Int)∧j+es'.len=ks.len∧y≤ks.size+1∧1≤y∧Hid (y+es'.size=ks.size+1)∧Hid (ExsAt wr B es' b' (o'+j*5))∧Hid (Below w.heap.size w wr)) (fun _ i _=>ks.len - (intOf i).toNat)
 case atStart=>exact ⟨0,ks,1,by go_num,by go_num,by omega,by omega,by omega,by show _=_;omega,by show ExsAt _ _ _ _ _;rw [Nat.zero_mul,Nat.add_zero];exact HKS.out.below (by show Below _ _ _;go_grown),by show Below _ _ _;go_grown⟩
 case round=>
  obtain ⟨j,es',y,rfl,rfl,hj,y1,y2,hy,HE,HB⟩:=hrel
  cases es' with
  | nil=>
   simp only [Es.len] at hj
   go_wp2
   go_ret
   have:=hy.out
   simp only [Es.size] at this
   exact ⟨ret_int (by omega),HB.out⟩
  | cons kk n' p' c' ks' r=>
   simp only [Es.len] at hj
   have hK:=hK (by omega)
   subst hK
   obtain ⟨hel,hr⟩:=HE.out
   have HR:=hid hr
   obtain ⟨hbB,h0,h1,h2,h3,K',cap',b2,o2,h4,hc2,hcm2,hK2,hks2⟩:=hel
   have HK2:Hid (ExSl wr B ks' K'):=⟨b2,o2,hK2,hks2⟩
   have hrs:Hid (y+1+ks'.size+r.size=ks.size+1):=by
    have:=hy.out
    simp only [Es.size] at this
    show _=_;omega
   clear hr HE hks2 hy
   go_wp2_with fail
   refine (IH.out ks' (by have:=hrs.out;omega) kk n' p' c' K' cap' B _ (HK2.out.below (by have:=HB.out.size;go_grown)) hc2 hcm2 (by have:=HB.out.size;simp;omega) (by have:=hrs.out;omega)).mono ?_;rintro e w1 ⟨rfl,hb1⟩
   have hb2:Below wr.heap.size wr w1:=Below.trans (by go_grown) (hb1.mono (by simp))
   have HE1:Hid (ExsAt w1 B r b' (o'+(j+1)*5)):=by
    have:=HR.out.below (hb2.mono (by have:=HB.out.size;omega))
    rwa [show o'+j*5+5=o'+(j+1)*5 by omega] at this
   have HB1:=hid (bnext HB.out hb2)
   obtain ⟨z,hz⟩:∃ z,z=ks'.size+1:=⟨_,rfl⟩
   rw [←hz]
   have z1:z≤1048576:=by have:=hrs.out;omega
   have HZ:Hid (y+z+r.size=ks.size+1):=by have:=hrs.out;show _=_;omega
   have hq:y+z≤ks.size+1:=by have:=HZ.out;omega
   clear hz hb1 hb2 HR
   go_wp2
   go_roundw
   case rel=>exact ⟨j+1,r,y+z,by go_num,by go_num,by omega,hq,by omega,HZ,HE1,HB1⟩
   case measure=>simp [intOf];omega
def DepC (ks:Es):Prop:=∀ (k n p c:Int) (K:Option Addr) (cap B:Nat) (w:World),ExSl w B ks K→ks.len≤cap→cap≤maxLen→B≤w.heap.size→ks.size≤1048576 →
 Calls Tryz.prog 153 #[exV k n p c K ks.len cap] w fun e w'=>e=.returned (.int .i64 ((ks.depth+1:Nat):Int))∧Below w.heap.size w w'
theorem dep_any:∀ (m:Nat) (ks:Es),ks.size<m→DepC ks:=by
 intro m
 induction m with
 | zero=>intro es h;omega
 | succ m ih=>
 intro ks hm k n p c K cap B w hKs hc hcm hB hsz0
 have IH:=hid ih;clear ih
 obtain ⟨b',o',hK,hks⟩:=hKs
 have HKS:=hid hks;clear hks
 have hcm':cap≤9223372036854775807:=by unfold maxLen at hcm;omega
 have hls:=Es.len_le_size ks
 have hdp:=Es.depth_le ks
 go_enter Tryz.func153,Tryz.ntmps153
 go_wp2
 go_loopw [3,9] (fun ll i wr=>∃ (j:Nat) (es':Es) (y:Nat),i=.int .i64 (j:Int)∧ll=.int .i64 (y:Int)∧j+es'.len=ks.len∧y≤ks.depth∧Hid (max y es'.depth=ks.depth)∧Hid (es'.size≤ks.size)∧Hid (ExsAt wr B es' b' (o'+j*5))∧Hid (Below w.heap.size w wr)) (fun _ i _=>ks.len - (intOf i).toNat)
 case atStart=>exact ⟨0,ks,0,by go_num,by go_num,by omega,by omega,by show _=_;omega,Nat.le_refl _,by show ExsAt _ _ _ _ _;rw [Nat.zero_mul,Nat.add_zero];exact HKS.out.below (by show Below _ _ _;go_grown),by show Below _ _ _;go_grown⟩
 case round=>
  obtain ⟨j,es',y,rfl,rfl,hj,y1,hy,hsz,HE,HB⟩:=hrel
  cases es' with
  | nil=>
   simp only [Es.len] at hj
   go_wp2
   go_ret
   have:=hy.out
   simp only [Es.depth] at this
   exact ⟨ret_int (by omega),HB.out⟩
  | cons kk n' p' c' ks' r=>
   simp only [Es.len] at hj
   have hK:=hK (by omega)
   subst hK
   obtain ⟨hel,hr⟩:=HE.out
   have HR:=hid hr
   obtain ⟨hbB,h0,h1,h2,h3,K',cap',b2,o2,h4,hc2,hcm2,hK2,hks2⟩:=hel
   have HK2:Hid (ExSl wr B ks' K'):=⟨b2,o2,hK2,hks2⟩
   have hrs:Hid (r.size≤ks.size∧ks'.size<ks.size):=by
    have:=hsz.out
    simp only [Es.size] at this
    exact ⟨by omega,by omega⟩
   have hyo:=hid hy.out
   clear hr HE hks2 hy
   go_wp2_with fail
   refine (IH.out ks' (by have:=hrs.out;omega) kk n' p' c' K' cap' B _ (HK2.out.below (by have:=HB.out.size;go_grown)) hc2 hcm2 (by have:=HB.out.size;simp;omega) (by have:=hrs.out;omega)).mono ?_;rintro e w1 ⟨rfl,hb1⟩
   have hb2:Below wr.heap.size wr w1:=Below.trans (by go_grown) (hb1.mono (by simp))
   have HE1:Hid (ExsAt w1 B r b' (o'+(j+1)*5)):=by
    have:=HR.out.below (hb2.mono (by have:=HB.out.size;omega))
    rwa [show o'+j*5+5=o'+(j+1)*5 by omega] at this
   have HB1:=hid (bnext HB.out hb2)
   obtain ⟨z,hz⟩:∃ z,z=ks'.depth+1:=⟨_,rfl⟩
   rw [←hz]
   have HZ:Hid (max (max y z) r.depth=ks.depth):=by
    have:=hyo.out
    simp only [Es.depth] at this
    show _=_;omega
   have hq:max y z≤ks.depth:=by have:=HZ.out;omega
   have hyz:(y≤z∧max y z=z)∨(z<y∧max y z=y):=by omega
   clear hz hb1 hb2 HR
   rcases hyz with ⟨hyz,hm2⟩ | ⟨hyz,hm2⟩
   all_goals
    have HM2:=hid hm2
    clear hm2
    go_wp2
    go_roundw
    case rel=>exact ⟨j+1,r,max y z,by go_num,by rw [HM2.out];congr 1;split<;>omega,by omega,hq,HZ,hrs.out.1,HE1,HB1⟩
    case measure=>simp [intOf];omega
end
section
open Go.RowKit Plain
abbrev chV (A:Option Addr) (len cap:Nat) (funcs:Int):Value:=.agg #[.slice A len cap,.int .i64 funcs]
def FPost (r:Bool) (w:World) (e:Ending) (w':World):Prop:=e=.returned (.bool r)∧Below w.heap.size w w'
theorem nodeOk_leaf1 {P:List Fn} {fn vars n p c:Int} {len:Nat}:nodeOk P fn vars 1 n p c len=(p==0&&c==0&&(len==0&&inR n 0 1000002)):=by unfold nodeOk;simp
theorem nodeOk_leaf2 {P:List Fn} {fn vars n p c:Int} {len:Nat}:nodeOk P fn vars 2 n p c len=(p==0&&c==0&&(len==0&&inR n 0 (vars - 1))):=by unfold nodeOk;simp
theorem nodeOk_op {P:List Fn} {fn vars n p c k:Int} {len N:Nat} (h:(k=3∨k=4∨k=5∨k=6∨k=9)∧N=2∨k=7∧N=1∨k=8∧N=3):nodeOk P fn vars k n p c len=(p==0&&c==0&&(n==0&&len==N)):=by
 unfold nodeOk
 rcases h with ⟨h | h | h | h | h,rfl⟩ | ⟨h,rfl⟩ | ⟨h,rfl⟩<;>subst h<;>simp
theorem nodeOk_none {P:List Fn} {fn vars n p c k:Int} {len:Nat} (h:k<1∨11<k):nodeOk P fn vars k n p c len=false:=by
 unfold nodeOk
 rw [if_neg (by omega),if_neg (by omega),if_neg (by omega),if_neg (by omega),if_neg (by omega),if_neg (by omega)]
 simp
theorem formed_leaf (P:List Fn) (ks:Es) (k n p c:Int) (K:Option Addr) (cap:Nat) (A:Option Addr) (capP:Nat) (vars funcs:Int) (w:World) (_hc:ks.len≤cap) (hcm:cap≤maxLen) (v0:0≤vars) (v1:vars≤2000000) (_hsz:ks.len≤1048576) (hk:k=1∨k=2) :
  Calls Tryz.prog 154 #[chV A P.length capP funcs,exV k n p c K ks.len cap,.int .i64 vars] w (FPost (nodeOk P funcs vars k n p c ks.len) w):=by
 have hcm':cap≤9223372036854775807:=by unfold maxLen at hcm;omega
 have hv:IntKind.i64.wrap (vars - 1)=vars - 1:=by rw [IntKind.wrap_i64];omega
 rcases hk with rfl | rfl
 ·have HN:=hid (nodeOk_leaf1 (P:=P) (fn:=funcs) (vars:=vars) (n:=n) (p:=p) (c:=c) (len:=ks.len))
  go_enter Tryz.func154,Tryz.ntmps154
  go_wp2_with (go_at_call 172;refine (isNumber_any _ _).mono ?_;rintro e w' ⟨rfl,rfl⟩)
  all_goals
   go_ret
   exact ⟨ret_bool (by rw [HN.out];simp_all),by go_grown⟩
 ·have HN:=hid (nodeOk_leaf2 (P:=P) (fn:=funcs) (vars:=vars) (n:=n) (p:=p) (c:=c) (len:=ks.len))
  go_enter Tryz.func154,Tryz.ntmps154
  go_wp2_with (go_at_call 90;refine (within_any _ _ _ _).mono ?_;rintro e w' ⟨rfl,rfl⟩)
  all_goals
   go_ret
   exact ⟨ret_bool (by rw [HN.out];simp_all),by go_grown⟩
end
section
open Go.RowKit Plain
theorem formed_none (P:List Fn) (ks:Es) (k n p c:Int) (K:Option Addr) (cap:Nat) (A:Option Addr) (capP:Nat) (vars funcs:Int) (w:World) (_hc:ks.len≤cap) (hcm:cap≤maxLen) (_hsz:ks.len≤1048576) (hk:k<1∨11<k) :
  Calls Tryz.prog 154 #[chV A P.length capP funcs,exV k n p c K ks.len cap,.int .i64 vars] w (FPost (nodeOk P funcs vars k n p c ks.len) w):=by
 have hcm':cap≤9223372036854775807:=by unfold maxLen at hcm;omega
 have HN:=hid (nodeOk_none (P:=P) (fn:=funcs) (vars:=vars) (n:=n) (p:=p) (c:=c) (len:=ks.len) hk)
 have e1:(k==1)=false:=by simp;omega
 have e2:(k==2)=false:=by simp;omega
 have e3:(k==3)=false:=by simp;omega
 have e4:(k==4)=false:=by simp;omega
 have e5:(k==5)=false:=by simp;omega
 have e6:(k==6)=false:=by simp;omega
 have e7:(k==7)=false:=by simp;omega
 have e8:(k==8)=false:=by simp;omega
 have e9:(k==9)=false:=by simp;omega
 have e10:(k==10)=false:=by simp;omega
 have e11:(k==11)=false:=by simp;omega
 by_cases hp:p=0
 ·subst hp
  go_enter Tryz.func154,Tryz.ntmps154
  go_wp2
  go_ret
  exact ⟨ret_bool HN.out.symm,by go_grown⟩
 ·have hp':(p==0)=false:=by simpa using hp
  go_enter Tryz.func154,Tryz.ntmps154
  go_wp2
  go_ret
  exact ⟨ret_bool HN.out.symm,by go_grown⟩
def opN (k:Int) (N:Nat):Prop:=(k=3∨k=4∨k=5∨k=6∨k=9)∧N=2∨k=7∧N=1∨k=8∧N=3
theorem formed_op (P:List Fn) (ks:Es) (k n p c:Int) (K:Option Addr) (cap:Nat) (A:Option Addr) (capP:Nat) (vars funcs:Int) (w:World) (_hc:ks.len≤cap) (hcm:cap≤maxLen) (_hsz:ks.len≤1048576) (N:Nat) (hk:opN k N) (hno:¬ (p=0∧c=0∧n=0∧ks.len=N)) :
  Calls Tryz.prog 154 #[chV A P.length capP funcs,exV k n p c K ks.len cap,.int .i64 vars] w (FPost (nodeOk P funcs vars k n p c ks.len) w):=by
 have hcm':cap≤9223372036854775807:=by unfold maxLen at hcm;omega
 have HN:Hid (nodeOk P funcs vars k n p c ks.len=false):=by
  show _=_
  rw [nodeOk_op hk,Bool.eq_false_iff]
  intro h
  simp only [Bool.and_eq_true,beq_iff_eq] at h
  exact hno ⟨h.1.1,h.1.2,h.2.1,h.2.2⟩
 by_cases hp:p=0
 ·subst hp
  by_cases hc0:c=0
  ·subst hc0
   by_cases hn:n=0
   ·subst hn
    have hl:ks.len≠N:=fun h=>hno ⟨rfl,rfl,rfl,h⟩
    clear hno
    rcases hk with ⟨rfl | rfl | rfl | rfl | rfl,rfl⟩ | ⟨rfl,rfl⟩ | ⟨rfl,rfl⟩
    all_goals
     have hl1:((ks.len:Int)==2)=false∨True:=.inr trivial
     go_enter Tryz.func154,Tryz.ntmps154
     go_wp2
     all_goals first
      | (go_ret;exact ⟨ret_bool HN.out.symm,by go_grown⟩)
      | (exfalso;simp_all;omega)
      | (exfalso;simp_all)
   ·have hn':(n==0)=false:=by simpa using hn
    have hn2:(n != 0)=true:=by simpa using hn
    clear hno hn
    rcases hk with ⟨rfl | rfl | rfl | rfl | rfl,rfl⟩ | ⟨rfl,rfl⟩ | ⟨rfl,rfl⟩
    all_goals
     go_enter Tryz.func154,Tryz.ntmps154
     go_wp2
     go_ret
     exact ⟨ret_bool HN.out.symm,by go_grown⟩
  ·have hn':(c==0)=false:=by simpa using hc0
   clear hno hc0
   rcases hk with ⟨rfl | rfl | rfl | rfl | rfl,rfl⟩ | ⟨rfl,rfl⟩ | ⟨rfl,rfl⟩
   all_goals
    go_enter Tryz.func154,Tryz.ntmps154
    go_wp2
    go_ret
    exact ⟨ret_bool HN.out.symm,by go_grown⟩
 ·have hn':(p==0)=false:=by simpa using hp
  clear hno hp
  rcases hk with ⟨rfl | rfl | rfl | rfl | rfl,rfl⟩ | ⟨rfl,rfl⟩ | ⟨rfl,rfl⟩
  all_goals
   go_enter Tryz.func154,Tryz.ntmps154
   go_wp2
   go_ret
   exact ⟨ret_bool HN.out.symm,by go_grown⟩
end
section
open Go.RowKit Plain
theorem formed_call (P:List Fn) (ks:Es) (k n p c:Int) (K:Option Addr) (cap B:Nat) (A:Option Addr) (capP:Nat) (vars funcs:Int) (w:World) (_hc:ks.len≤cap) (hcm:cap≤maxLen) (hFS:FnSl w B P A) (hPl:P.length≤capP) (hPm:capP≤maxLen) (hB:B≤w.heap.size) (hf0:0≤funcs) (hf1:funcs≤P.length) (hsz:ks.len≤1048576) (hk:k=10∨k=11) (hno:nodeOk P funcs vars k n p c ks.len=false) :
  Calls Tryz.prog 154 #[chV A P.length capP funcs,exV k n p c K ks.len cap,.int .i64 vars] w (FPost false w):=by
 have hcm':cap≤9223372036854775807:=by unfold maxLen at hcm;omega
 have hPm':capP≤9223372036854775807:=by unfold maxLen at hPm;omega
 have HFS:=hid hFS;clear hFS
 have key:p=0∨(p==0)=false:=by
  by_cases h:p=0
  ·exact .inl h
  ·exact .inr (by simpa using h)
 rcases key with rfl | hp0
 ·cases hn:inR n 0 (funcs - 1)
  ·have HN:=hid hn
   clear hn hno
   rcases hk with rfl | rfl
   all_goals
    go_enter Tryz.func154,Tryz.ntmps154
    go_wp2_with fail
    all_goals
      refine (within_any _ _ _ _).mono ?_;rintro e w' ⟨rfl,rfl⟩
      rw [HN.out]
      go_wp2
      go_ret
      exact ⟨rfl,by go_grown⟩
  ·obtain ⟨n0,n1⟩:=inR_true.1 hn
   obtain ⟨m,rfl⟩:=Int.eq_ofNat_of_zero_le n0
   obtain ⟨f,hf⟩:∃ f,P[m]? = some f:=⟨P[m]'(by omega),List.getElem?_eq_getElem _⟩
   have HN:=hid ((nodeOk_call (vars:=vars) (p:=0) (c:=c) (len:=ks.len) hk (show P[(m:Int).toNat]? = some f from hf) hn).symm.trans hno)
   obtain ⟨bF,oF,rfl,hbF,g0,g1,_,KF,cF,g2,hcF,hcFm,_⟩:=HFS.out.get hf
   have hcF':cF≤9223372036854775807:=by unfold maxLen at hcFm;omega
   have hl4:((f.outs.len:Nat):Int)≤9223372036854775807:=by omega
   have hl5:((ks.len:Nat):Int)≤9223372036854775807:=by omega
   have hNN:=hid hn
   have hbw:bF<w.heap.size:=by omega
   have hml:m<P.length:=(List.getElem?_eq_some_iff.1 hf).1
   have hml2:(m:Int)<(P.length:Int):=by omega
   clear hno hn hf
   cases hl:((ks.len:Int)==f.params)
   ·have hl2:((ks.len:Int) != f.params)=true:=by simpa using hl
    rcases hk with rfl | rfl
    all_goals
     go_enter Tryz.func154,Tryz.ntmps154
     go_wp2_with fail
     all_goals
      refine (within_any _ _ _ _).mono ?_;rintro e w' ⟨rfl,rfl⟩
      rw [hNN.out]
      go_wp2
      go_ret
      exact ⟨rfl,by go_grown⟩
   ·have hl2:((ks.len:Int) != f.params)=false:=by simpa using hl
    have HL:Hid (decide ((ks.len:Int)=f.params)=true):=by show _=_;simpa using hl
    cases hp:inR 0 0 ((f.outs.len:Int) - 1)
    ·have HP:=hid hp
     clear hp
     rcases hk with rfl | rfl
     all_goals
      go_enter Tryz.func154,Tryz.ntmps154
      go_wp2_with fail
      all_goals
       refine (within_any _ _ _ _).mono ?_;rintro e w' ⟨rfl,rfl⟩
       rw [hNN.out]
       go_wp2_with fail
       refine (within_any _ _ _ _).mono ?_;rintro e w' ⟨rfl,rfl⟩
       rw [HP.out]
       go_wp2
       go_ret
       exact ⟨rfl,by go_grown⟩
    ·have HP:=hid hp
     clear hp
     rcases hk with rfl | rfl
     ·have hc0:(c==0)=false:=by
       have:=HN.out
       rw [HL.out,HP.out] at this
       simpa using this
      have hc1:(c != 0)=true:=by simpa using hc0
      go_enter Tryz.func154,Tryz.ntmps154
      go_wp2_with fail
      all_goals
       refine (within_any _ _ _ _).mono ?_;rintro e w' ⟨rfl,rfl⟩
       rw [hNN.out]
       go_wp2_with fail
       refine (within_any _ _ _ _).mono ?_;rintro e w' ⟨rfl,rfl⟩
       rw [HP.out]
       go_wp2
       go_ret
       exact ⟨rfl,by go_grown⟩
     ·cases ho:((f.outs.len:Int)==f.params)
      ·have ho1:((f.outs.len:Int) != f.params)=true:=by simpa using ho
       go_enter Tryz.func154,Tryz.ntmps154
       go_wp2_with fail
       all_goals
        refine (within_any _ _ _ _).mono ?_;rintro e w' ⟨rfl,rfl⟩
        rw [hNN.out]
        go_wp2_with fail
        refine (within_any _ _ _ _).mono ?_;rintro e w' ⟨rfl,rfl⟩
        rw [HP.out]
        go_wp2
        go_ret
        exact ⟨rfl,by go_grown⟩
      ·have ho1:((f.outs.len:Int) != f.params)=false:=by simpa using ho
       have HO:Hid (decide ((f.outs.len:Int)=f.params)=true):=by show _=_;simpa using ho
       have hc8:Hid (inR c 0 8=false):=by
        have:=HN.out
        rw [HL.out,HP.out,HO.out] at this
        show _=_
        simpa using this
       go_enter Tryz.func154,Tryz.ntmps154
       go_wp2_with fail
       all_goals
        refine (within_any _ _ _ _).mono ?_;rintro e w' ⟨rfl,rfl⟩
        rw [hNN.out]
        go_wp2_with fail
        refine (within_any _ _ _ _).mono ?_;rintro e w' ⟨rfl,rfl⟩
        rw [HP.out]
        go_wp2_with fail
        refine (within_any _ _ _ _).mono ?_;rintro e w' ⟨rfl,rfl⟩
        rw [hc8.out]
        go_wp2
        go_ret
        exact ⟨rfl,by go_grown⟩
 ·cases hn:inR n 0 (funcs - 1)
  ·have HN:=hid hn
   clear hn hno
   rcases hk with rfl | rfl
   all_goals
    go_enter Tryz.func154,Tryz.ntmps154
    go_wp2_with fail
    all_goals
      refine (within_any _ _ _ _).mono ?_;rintro e w' ⟨rfl,rfl⟩
      rw [HN.out]
      go_wp2
      go_ret
      exact ⟨rfl,by go_grown⟩
  ·obtain ⟨n0,n1⟩:=inR_true.1 hn
   obtain ⟨m,rfl⟩:=Int.eq_ofNat_of_zero_le n0
   obtain ⟨f,hf⟩:∃ f,P[m]? = some f:=⟨P[m]'(by omega),List.getElem?_eq_getElem _⟩
   have HN:=hid ((nodeOk_call (vars:=vars) (p:=p) (c:=c) (len:=ks.len) hk (show P[(m:Int).toNat]? = some f from hf) hn).symm.trans hno)
   obtain ⟨bF,oF,rfl,hbF,g0,g1,_,KF,cF,g2,hcF,hcFm,_⟩:=HFS.out.get hf
   have hcF':cF≤9223372036854775807:=by unfold maxLen at hcFm;omega
   have hl4:((f.outs.len:Nat):Int)≤9223372036854775807:=by omega
   have hl5:((ks.len:Nat):Int)≤9223372036854775807:=by omega
   have hNN:=hid hn
   have hbw:bF<w.heap.size:=by omega
   have hml:m<P.length:=(List.getElem?_eq_some_iff.1 hf).1
   have hml2:(m:Int)<(P.length:Int):=by omega
   clear hno hn hf
   cases hl:((ks.len:Int)==f.params)
   ·have hl2:((ks.len:Int) != f.params)=true:=by simpa using hl
    rcases hk with rfl | rfl
    all_goals
     go_enter Tryz.func154,Tryz.ntmps154
     go_wp2_with fail
     all_goals
      refine (within_any _ _ _ _).mono ?_;rintro e w' ⟨rfl,rfl⟩
      rw [hNN.out]
      go_wp2
      go_ret
      exact ⟨rfl,by go_grown⟩
   ·have hl2:((ks.len:Int) != f.params)=false:=by simpa using hl
    have HL:Hid (decide ((ks.len:Int)=f.params)=true):=by show _=_;simpa using hl
    cases hp:inR p 0 ((f.outs.len:Int) - 1)
    ·have HP:=hid hp
     clear hp
     rcases hk with rfl | rfl
     all_goals
      go_enter Tryz.func154,Tryz.ntmps154
      go_wp2_with fail
      all_goals
       refine (within_any _ _ _ _).mono ?_;rintro e w' ⟨rfl,rfl⟩
       rw [hNN.out]
       go_wp2_with fail
       refine (within_any _ _ _ _).mono ?_;rintro e w' ⟨rfl,rfl⟩
       rw [HP.out]
       go_wp2
       go_ret
       exact ⟨rfl,by go_grown⟩
    ·have HP:=hid hp
     clear hp
     rcases hk with rfl | rfl
     ·have hc0:(c==0)=false:=by
       have:=HN.out
       rw [HL.out,HP.out] at this
       simpa using this
      have hc1:(c != 0)=true:=by simpa using hc0
      go_enter Tryz.func154,Tryz.ntmps154
      go_wp2_with fail
      all_goals
       refine (within_any _ _ _ _).mono ?_;rintro e w' ⟨rfl,rfl⟩
       rw [hNN.out]
       go_wp2_with fail
       refine (within_any _ _ _ _).mono ?_;rintro e w' ⟨rfl,rfl⟩
       rw [HP.out]
       go_wp2
       go_ret
       exact ⟨rfl,by go_grown⟩
     ·cases ho:((f.outs.len:Int)==f.params)
      ·have ho1:((f.outs.len:Int) != f.params)=true:=by simpa using ho
       go_enter Tryz.func154,Tryz.ntmps154
       go_wp2_with fail
       all_goals
        refine (within_any _ _ _ _).mono ?_;rintro e w' ⟨rfl,rfl⟩
        rw [hNN.out]
        go_wp2_with fail
        refine (within_any _ _ _ _).mono ?_;rintro e w' ⟨rfl,rfl⟩
        rw [HP.out]
        go_wp2
        go_ret
        exact ⟨rfl,by go_grown⟩
      ·have ho1:((f.outs.len:Int) != f.params)=false:=by simpa using ho
       have HO:Hid (decide ((f.outs.len:Int)=f.params)=true):=by show _=_;simpa using ho
       have hc8:Hid (inR c 0 8=false):=by
        have:=HN.out
        rw [HL.out,HP.out,HO.out] at this
        show _=_
        simpa using this
       go_enter Tryz.func154,Tryz.ntmps154
       go_wp2_with fail
       all_goals
        refine (within_any _ _ _ _).mono ?_;rintro e w' ⟨rfl,rfl⟩
        rw [hNN.out]
        go_wp2_with fail
        refine (within_any _ _ _ _).mono ?_;rintro e w' ⟨rfl,rfl⟩
        rw [HP.out]
        go_wp2_with fail
        refine (within_any _ _ _ _).mono ?_;rintro e w' ⟨rfl,rfl⟩
        rw [hc8.out]
        go_wp2
        go_ret
        exact ⟨rfl,by go_grown⟩
end
end Go.Proofs.YtgfkglhelfkpoaaGreat
