/- Texts put together: WOk11, WOk11b, WOk12, WOk13, WOk14. -/
import Derived.Test.YtgfkglhelfkpoaaGreatRF
set_option maxRecDepth 100000
set_option maxHeartbeats 2000000
open Go.Lib (hid)
namespace Go.Proofs.YtgfkglhelfkpoaaGreat
section
open Go.RowKit Plain
theorem two_boxes (w:World) (t1 t2:TypeId) (C1 C2:List Value):Cells ((w.alloc (.cells C1.toArray t1)).alloc (.cells C2.toArray t2)) w.heap.size t1 C1∧Cells ((w.alloc (.cells C1.toArray t1)).alloc (.cells C2.toArray t2)) (w.heap.size+1) t2 C2 ∧
  Below w.heap.size w ((w.alloc (.cells C1.toArray t1)).alloc (.cells C2.toArray t2)):=by
 refine ⟨(Cells.new w t1 C1).next (by go_grown), ?_,by go_grown⟩
 have:=Cells.new (w.alloc (.cells C1.toArray t1)) t2 C2
 rwa [show (w.alloc (.cells C1.toArray t1)).heap.size=w.heap.size+1 by simp] at this
theorem kidVars_ne {k vars:Int} {j:Nat} (h:k≠9):kidVars k vars j=vars:=by unfold kidVars;rw [if_neg (by omega)]
theorem kidVars_no {k vars:Int} {j:Nat} (h:j≠1):kidVars k vars j=vars:=by unfold kidVars;rw [if_neg (by omega)]
theorem kidVars_yes {vars:Int}:kidVars 9 vars 1=vars+1:=rfl
def FormC (P:List Fn) (ks:Es):Prop:=∀ (k n p c:Int) (K:Option Addr) (cap B:Nat) (A:Option Addr) (capP:Nat) (vars funcs:Int) (w:World),ExSl w B ks K→ks.len≤cap→cap≤maxLen→FnSl w B P A→P.length≤capP→capP≤maxLen→B≤w.heap.size→0≤funcs→funcs≤P.length→0≤vars→vars+ks.depth≤2000000→ks.size≤1048576 →
 Calls Tryz.prog 154 #[chV A P.length capP funcs,exV k n p c K ks.len cap,.int .i64 vars] w (FPost (nodeOk P funcs vars k n p c ks.len&&formedL P funcs ks k 0 vars) w)
theorem formed_go3 (P:List Fn) (m:Nat) (ks:Es) (IH:Hid (∀ (ks:Es),ks.size<m→FormC P ks)) (hm:ks.size<m+1) (K:Option Addr) (cap B:Nat) (A:Option Addr) (capP:Nat) (vars funcs:Int) (w:World) (hKs:ExSl w B ks K) (_hc:ks.len≤cap) (hcm:cap≤maxLen) (hFS:FnSl w B P A) (hPl:P.length≤capP) (hPm:capP≤maxLen) (hB:B≤w.heap.size) (f0:0≤funcs) (f1:funcs≤P.length) (v0:0≤vars) (v1:vars+ks.depth≤2000000) (hsz0:ks.size≤1048576) (hl:ks.len=2) :
  Calls Tryz.prog 154 #[chV A P.length capP funcs,exV 3 0 0 0 K ks.len cap,.int .i64 vars] w (FPost (formedL P funcs ks 3 0 vars) w):=by
 have hcm':cap≤9223372036854775807:=by unfold maxLen at hcm;omega
 have hPm':capP≤9223372036854775807:=by unfold maxLen at hPm;omega
 have hls:=Es.len_le_size ks
 obtain ⟨b',o',hK,hks⟩:=hKs
 have HKS:=hid hks;clear hks
 have HFS:=hid hFS;clear hFS
 obtain ⟨F,hF⟩:∃ F,F=formedL P funcs ks 3 0 vars:=⟨_,rfl⟩
 have HF:=hid hF
 rw [←hF]
 clear hF
 have l1:((ks.len:Int)==2)=true:=by simp;omega
 have l2:((ks.len:Int) != 2)=false:=by simp;omega
 have hkl:ks.len≤2:=by omega
 have HL:=hid hl;clear hl
 go_enter Tryz.func154,Tryz.ntmps154
 go_wp2
 go_loopw [156] (fun i wr=>∃ (j:Nat) (es':Es),i=.int .i64 (j:Int)∧j+es'.len=ks.len∧Hid (formedL P funcs es' 3 j vars=F)∧Hid (es'.size≤ks.size∧es'.depth≤ks.depth)∧Hid (Cells wr w.heap.size 209 [.slice A P.length capP,.int .i64 funcs])∧Hid (Cells wr (w.heap.size+1) 33 [.int .i64 3,.int .i64 0,.int .i64 0,.int .i64 0,.slice K ks.len cap])∧Hid (ExsAt wr B es' b' (o'+j*5))∧Hid (Below w.heap.size w wr)) (fun i _=>ks.len - (intOf i).toNat)
 case atStart=>
  obtain ⟨q1,q2,q3⟩:=two_boxes w 209 33 [.slice A P.length capP,.int .i64 funcs] [.int .i64 3,.int .i64 0,.int .i64 0,.int .i64 0,.slice K ks.len cap]
  exact ⟨0,ks,by go_num,by omega,HF.out.symm,⟨Nat.le_refl _,Nat.le_refl _⟩,q1,q2,by show ExsAt _ _ _ _ _;rw [Nat.zero_mul,Nat.add_zero];exact HKS.out.below (q3.mono hB),q3⟩
 case round=>
  obtain ⟨j,es',rfl,hj,hy,hsz,HC1,HC2,HE,HB⟩:=hrel
  cases es' with
  | nil=>
   simp only [Es.len] at hj
   go_wp2
   go_ret
   have:=hy.out
   simp only [formedL] at this
   exact ⟨ret_bool this,HB.out⟩
  | cons kk n' p' c' ks' r=>
   simp only [Es.len] at hj
   have hK:=hK (by omega)
   subst hK
   obtain ⟨hel,hr⟩:=HE.out
   have HR:=hid hr
   obtain ⟨hbB,c0,c1,c2,c3,K',cap',b2,o2,c4,hc2,hcm2,hK2,hks2⟩:=hel
   have HK2:Hid (ExSl wr B ks' K'):=⟨b2,o2,hK2,hks2⟩
   have hrs:Hid ((r.size≤ks.size∧r.depth≤ks.depth)∧ks'.size<ks.size∧ks'.depth+1≤ks.depth):=by
    have:=hsz.out
    simp only [Es.size,Es.depth] at this
    exact ⟨⟨by omega,by omega⟩,by omega,by omega⟩
   have a0:wr.cell? ⟨w.heap.size,0,none⟩=some (.slice A P.length capP):=by rw [HC1.out.cell];rfl
   have a1:wr.cell? ⟨w.heap.size,1,none⟩=some (.int .i64 funcs):=by rw [HC1.out.cell];rfl
   have a2:wr.cell? ⟨w.heap.size+1,0,none⟩=some (.int .i64 3):=by rw [HC2.out.cell];rfl
   have a3:=HC1.out.lt
   have a4:=HC2.out.lt
   have hbr:b'<wr.heap.size:=by omega
   clear hr HE hks2
   have HKV:Hid (kidVars 3 vars j=vars):=kidVars_ne (by omega)
   go_wp2_with fail
   refine (IH.out ks' (by have:=hrs.out;omega) kk n' p' c' K' cap' B A capP vars funcs _ (HK2.out.below (by have:=HB.out.size;go_grown)) hc2 hcm2 (HFS.out.below ((HB.out.mono hB).trans (by have:=HB.out.size;go_grown))) hPl hPm (by have:=HB.out.size;simp;omega) f0 f1 (by omega) (by have:=hrs.out;omega) (by have:=hrs.out;omega)).mono ?_;rintro e w2 ⟨rfl,hb2⟩
   have hb3:Below wr.heap.size wr w2:=Below.trans (by go_grown) (hb2.mono (by simp))
   have HE1:Hid (ExsAt w2 B r b' (o'+(j+1)*5)):=by
    have:=HR.out.below (hb3.mono (by have:=HB.out.size;omega))
    rwa [show o'+j*5+5=o'+(j+1)*5 by omega] at this
   have HB2:=hid (bnext HB.out hb3)
   have HC1':=hid (HC1.out.next hb3)
   have HC2':=hid (HC2.out.next hb3)
   have hy2:=hy.out
   simp only [formedL] at hy2
   rw [HKV.out] at hy2
   generalize (nodeOk P funcs vars kk n' p' c' ks'.len&&formedL P funcs ks' kk 0 vars)=bb at hy2 ⊢
   have HY2:=hid hy2
   clear hb2 hb3 HR hy2 HC1 HC2 HK2 HB a0 a1 a2 a3 a4 c0 c1 c2 c3 c4
   cases bb
   ·have HN2:Hid (F=false):=by have:=HY2.out;rw [Bool.false_and] at this;exact this.symm
    go_wp2
    go_ret
    exact ⟨ret_bool HN2.out.symm,HB2.out⟩
   ·have HN2:Hid (formedL P funcs r 3 (j+1) vars=F):=by have:=HY2.out;rw [Bool.true_and] at this;exact this
    go_wp2
    go_roundw
    case rel=>exact ⟨j+1,r,by go_num,by omega,HN2,hrs.out.1,HC1',HC2',HE1,HB2⟩
    case measure=>simp [intOf];omega
theorem formed_go4 (P:List Fn) (m:Nat) (ks:Es) (IH:Hid (∀ (ks:Es),ks.size<m→FormC P ks)) (hm:ks.size<m+1) (K:Option Addr) (cap B:Nat) (A:Option Addr) (capP:Nat) (vars funcs:Int) (w:World) (hKs:ExSl w B ks K) (_hc:ks.len≤cap) (hcm:cap≤maxLen) (hFS:FnSl w B P A) (hPl:P.length≤capP) (hPm:capP≤maxLen) (hB:B≤w.heap.size) (f0:0≤funcs) (f1:funcs≤P.length) (v0:0≤vars) (v1:vars+ks.depth≤2000000) (hsz0:ks.size≤1048576) (hl:ks.len=2) :
  Calls Tryz.prog 154 #[chV A P.length capP funcs,exV 4 0 0 0 K ks.len cap,.int .i64 vars] w (FPost (formedL P funcs ks 4 0 vars) w):=by
 have hcm':cap≤9223372036854775807:=by unfold maxLen at hcm;omega
 have hPm':capP≤9223372036854775807:=by unfold maxLen at hPm;omega
 have hls:=Es.len_le_size ks
 obtain ⟨b',o',hK,hks⟩:=hKs
 have HKS:=hid hks;clear hks
 have HFS:=hid hFS;clear hFS
 obtain ⟨F,hF⟩:∃ F,F=formedL P funcs ks 4 0 vars:=⟨_,rfl⟩
 have HF:=hid hF
 rw [←hF]
 clear hF
 have l1:((ks.len:Int)==2)=true:=by simp;omega
 have l2:((ks.len:Int) != 2)=false:=by simp;omega
 have hkl:ks.len≤2:=by omega
 have HL:=hid hl;clear hl
 go_enter Tryz.func154,Tryz.ntmps154
 go_wp2
 go_loopw [156] (fun i wr=>∃ (j:Nat) (es':Es),i=.int .i64 (j:Int)∧j+es'.len=ks.len∧Hid (formedL P funcs es' 4 j vars=F)∧Hid (es'.size≤ks.size∧es'.depth≤ks.depth)∧Hid (Cells wr w.heap.size 209 [.slice A P.length capP,.int .i64 funcs])∧Hid (Cells wr (w.heap.size+1) 33 [.int .i64 4,.int .i64 0,.int .i64 0,.int .i64 0,.slice K ks.len cap])∧Hid (ExsAt wr B es' b' (o'+j*5))∧Hid (Below w.heap.size w wr)) (fun i _=>ks.len - (intOf i).toNat)
 case atStart=>
  obtain ⟨q1,q2,q3⟩:=two_boxes w 209 33 [.slice A P.length capP,.int .i64 funcs] [.int .i64 4,.int .i64 0,.int .i64 0,.int .i64 0,.slice K ks.len cap]
  exact ⟨0,ks,by go_num,by omega,HF.out.symm,⟨Nat.le_refl _,Nat.le_refl _⟩,q1,q2,by show ExsAt _ _ _ _ _;rw [Nat.zero_mul,Nat.add_zero];exact HKS.out.below (q3.mono hB),q3⟩
 case round=>
  obtain ⟨j,es',rfl,hj,hy,hsz,HC1,HC2,HE,HB⟩:=hrel
  cases es' with
  | nil=>
   simp only [Es.len] at hj
   go_wp2
   go_ret
   have:=hy.out
   simp only [formedL] at this
   exact ⟨ret_bool this,HB.out⟩
  | cons kk n' p' c' ks' r=>
   simp only [Es.len] at hj
   have hK:=hK (by omega)
   subst hK
   obtain ⟨hel,hr⟩:=HE.out
   have HR:=hid hr
   obtain ⟨hbB,c0,c1,c2,c3,K',cap',b2,o2,c4,hc2,hcm2,hK2,hks2⟩:=hel
   have HK2:Hid (ExSl wr B ks' K'):=⟨b2,o2,hK2,hks2⟩
   have hrs:Hid ((r.size≤ks.size∧r.depth≤ks.depth)∧ks'.size<ks.size∧ks'.depth+1≤ks.depth):=by
    have:=hsz.out
    simp only [Es.size,Es.depth] at this
    exact ⟨⟨by omega,by omega⟩,by omega,by omega⟩
   have a0:wr.cell? ⟨w.heap.size,0,none⟩=some (.slice A P.length capP):=by rw [HC1.out.cell];rfl
   have a1:wr.cell? ⟨w.heap.size,1,none⟩=some (.int .i64 funcs):=by rw [HC1.out.cell];rfl
   have a2:wr.cell? ⟨w.heap.size+1,0,none⟩=some (.int .i64 4):=by rw [HC2.out.cell];rfl
   have a3:=HC1.out.lt
   have a4:=HC2.out.lt
   have hbr:b'<wr.heap.size:=by omega
   clear hr HE hks2
   have HKV:Hid (kidVars 4 vars j=vars):=kidVars_ne (by omega)
   go_wp2_with fail
   refine (IH.out ks' (by have:=hrs.out;omega) kk n' p' c' K' cap' B A capP vars funcs _ (HK2.out.below (by have:=HB.out.size;go_grown)) hc2 hcm2 (HFS.out.below ((HB.out.mono hB).trans (by have:=HB.out.size;go_grown))) hPl hPm (by have:=HB.out.size;simp;omega) f0 f1 (by omega) (by have:=hrs.out;omega) (by have:=hrs.out;omega)).mono ?_;rintro e w2 ⟨rfl,hb2⟩
   have hb3:Below wr.heap.size wr w2:=Below.trans (by go_grown) (hb2.mono (by simp))
   have HE1:Hid (ExsAt w2 B r b' (o'+(j+1)*5)):=by
    have:=HR.out.below (hb3.mono (by have:=HB.out.size;omega))
    rwa [show o'+j*5+5=o'+(j+1)*5 by omega] at this
   have HB2:=hid (bnext HB.out hb3)
   have HC1':=hid (HC1.out.next hb3)
   have HC2':=hid (HC2.out.next hb3)
   have hy2:=hy.out
   simp only [formedL] at hy2
   rw [HKV.out] at hy2
   generalize (nodeOk P funcs vars kk n' p' c' ks'.len&&formedL P funcs ks' kk 0 vars)=bb at hy2 ⊢
   have HY2:=hid hy2
   clear hb2 hb3 HR hy2 HC1 HC2 HK2 HB a0 a1 a2 a3 a4 c0 c1 c2 c3 c4
   cases bb
   ·have HN2:Hid (F=false):=by have:=HY2.out;rw [Bool.false_and] at this;exact this.symm
    go_wp2
    go_ret
    exact ⟨ret_bool HN2.out.symm,HB2.out⟩
   ·have HN2:Hid (formedL P funcs r 4 (j+1) vars=F):=by have:=HY2.out;rw [Bool.true_and] at this;exact this
    go_wp2
    go_roundw
    case rel=>exact ⟨j+1,r,by go_num,by omega,HN2,hrs.out.1,HC1',HC2',HE1,HB2⟩
    case measure=>simp [intOf];omega
theorem formed_go5 (P:List Fn) (m:Nat) (ks:Es) (IH:Hid (∀ (ks:Es),ks.size<m→FormC P ks)) (hm:ks.size<m+1) (K:Option Addr) (cap B:Nat) (A:Option Addr) (capP:Nat) (vars funcs:Int) (w:World) (hKs:ExSl w B ks K) (_hc:ks.len≤cap) (hcm:cap≤maxLen) (hFS:FnSl w B P A) (hPl:P.length≤capP) (hPm:capP≤maxLen) (hB:B≤w.heap.size) (f0:0≤funcs) (f1:funcs≤P.length) (v0:0≤vars) (v1:vars+ks.depth≤2000000) (hsz0:ks.size≤1048576) (hl:ks.len=2) :
  Calls Tryz.prog 154 #[chV A P.length capP funcs,exV 5 0 0 0 K ks.len cap,.int .i64 vars] w (FPost (formedL P funcs ks 5 0 vars) w):=by
 have hcm':cap≤9223372036854775807:=by unfold maxLen at hcm;omega
 have hPm':capP≤9223372036854775807:=by unfold maxLen at hPm;omega
 have hls:=Es.len_le_size ks
 obtain ⟨b',o',hK,hks⟩:=hKs
 have HKS:=hid hks;clear hks
 have HFS:=hid hFS;clear hFS
 obtain ⟨F,hF⟩:∃ F,F=formedL P funcs ks 5 0 vars:=⟨_,rfl⟩
 have HF:=hid hF
 rw [←hF]
 clear hF
 have l1:((ks.len:Int)==2)=true:=by simp;omega
 have l2:((ks.len:Int) != 2)=false:=by simp;omega
 have hkl:ks.len≤2:=by omega
 have HL:=hid hl;clear hl
 go_enter Tryz.func154,Tryz.ntmps154
 go_wp2
 go_loopw [156] (fun i wr=>∃ (j:Nat) (es':Es),i=.int .i64 (j:Int)∧j+es'.len=ks.len∧Hid (formedL P funcs es' 5 j vars=F)∧Hid (es'.size≤ks.size∧es'.depth≤ks.depth)∧Hid (Cells wr w.heap.size 209 [.slice A P.length capP,.int .i64 funcs])∧Hid (Cells wr (w.heap.size+1) 33 [.int .i64 5,.int .i64 0,.int .i64 0,.int .i64 0,.slice K ks.len cap])∧Hid (ExsAt wr B es' b' (o'+j*5))∧Hid (Below w.heap.size w wr)) (fun i _=>ks.len - (intOf i).toNat)
 case atStart=>
  obtain ⟨q1,q2,q3⟩:=two_boxes w 209 33 [.slice A P.length capP,.int .i64 funcs] [.int .i64 5,.int .i64 0,.int .i64 0,.int .i64 0,.slice K ks.len cap]
  exact ⟨0,ks,by go_num,by omega,HF.out.symm,⟨Nat.le_refl _,Nat.le_refl _⟩,q1,q2,by show ExsAt _ _ _ _ _;rw [Nat.zero_mul,Nat.add_zero];exact HKS.out.below (q3.mono hB),q3⟩
 case round=>
  obtain ⟨j,es',rfl,hj,hy,hsz,HC1,HC2,HE,HB⟩:=hrel
  cases es' with
  | nil=>
   simp only [Es.len] at hj
   go_wp2
   go_ret
   have:=hy.out
   simp only [formedL] at this
   exact ⟨ret_bool this,HB.out⟩
  | cons kk n' p' c' ks' r=>
   simp only [Es.len] at hj
   have hK:=hK (by omega)
   subst hK
   obtain ⟨hel,hr⟩:=HE.out
   have HR:=hid hr
   obtain ⟨hbB,c0,c1,c2,c3,K',cap',b2,o2,c4,hc2,hcm2,hK2,hks2⟩:=hel
   have HK2:Hid (ExSl wr B ks' K'):=⟨b2,o2,hK2,hks2⟩
   have hrs:Hid ((r.size≤ks.size∧r.depth≤ks.depth)∧ks'.size<ks.size∧ks'.depth+1≤ks.depth):=by
    have:=hsz.out
    simp only [Es.size,Es.depth] at this
    exact ⟨⟨by omega,by omega⟩,by omega,by omega⟩
   have a0:wr.cell? ⟨w.heap.size,0,none⟩=some (.slice A P.length capP):=by rw [HC1.out.cell];rfl
   have a1:wr.cell? ⟨w.heap.size,1,none⟩=some (.int .i64 funcs):=by rw [HC1.out.cell];rfl
   have a2:wr.cell? ⟨w.heap.size+1,0,none⟩=some (.int .i64 5):=by rw [HC2.out.cell];rfl
   have a3:=HC1.out.lt
   have a4:=HC2.out.lt
   have hbr:b'<wr.heap.size:=by omega
   clear hr HE hks2
   have HKV:Hid (kidVars 5 vars j=vars):=kidVars_ne (by omega)
   go_wp2_with fail
   refine (IH.out ks' (by have:=hrs.out;omega) kk n' p' c' K' cap' B A capP vars funcs _ (HK2.out.below (by have:=HB.out.size;go_grown)) hc2 hcm2 (HFS.out.below ((HB.out.mono hB).trans (by have:=HB.out.size;go_grown))) hPl hPm (by have:=HB.out.size;simp;omega) f0 f1 (by omega) (by have:=hrs.out;omega) (by have:=hrs.out;omega)).mono ?_;rintro e w2 ⟨rfl,hb2⟩
   have hb3:Below wr.heap.size wr w2:=Below.trans (by go_grown) (hb2.mono (by simp))
   have HE1:Hid (ExsAt w2 B r b' (o'+(j+1)*5)):=by
    have:=HR.out.below (hb3.mono (by have:=HB.out.size;omega))
    rwa [show o'+j*5+5=o'+(j+1)*5 by omega] at this
   have HB2:=hid (bnext HB.out hb3)
   have HC1':=hid (HC1.out.next hb3)
   have HC2':=hid (HC2.out.next hb3)
   have hy2:=hy.out
   simp only [formedL] at hy2
   rw [HKV.out] at hy2
   generalize (nodeOk P funcs vars kk n' p' c' ks'.len&&formedL P funcs ks' kk 0 vars)=bb at hy2 ⊢
   have HY2:=hid hy2
   clear hb2 hb3 HR hy2 HC1 HC2 HK2 HB a0 a1 a2 a3 a4 c0 c1 c2 c3 c4
   cases bb
   ·have HN2:Hid (F=false):=by have:=HY2.out;rw [Bool.false_and] at this;exact this.symm
    go_wp2
    go_ret
    exact ⟨ret_bool HN2.out.symm,HB2.out⟩
   ·have HN2:Hid (formedL P funcs r 5 (j+1) vars=F):=by have:=HY2.out;rw [Bool.true_and] at this;exact this
    go_wp2
    go_roundw
    case rel=>exact ⟨j+1,r,by go_num,by omega,HN2,hrs.out.1,HC1',HC2',HE1,HB2⟩
    case measure=>simp [intOf];omega
theorem formed_go6 (P:List Fn) (m:Nat) (ks:Es) (IH:Hid (∀ (ks:Es),ks.size<m→FormC P ks)) (hm:ks.size<m+1) (K:Option Addr) (cap B:Nat) (A:Option Addr) (capP:Nat) (vars funcs:Int) (w:World) (hKs:ExSl w B ks K) (_hc:ks.len≤cap) (hcm:cap≤maxLen) (hFS:FnSl w B P A) (hPl:P.length≤capP) (hPm:capP≤maxLen) (hB:B≤w.heap.size) (f0:0≤funcs) (f1:funcs≤P.length) (v0:0≤vars) (v1:vars+ks.depth≤2000000) (hsz0:ks.size≤1048576) (hl:ks.len=2) :
  Calls Tryz.prog 154 #[chV A P.length capP funcs,exV 6 0 0 0 K ks.len cap,.int .i64 vars] w (FPost (formedL P funcs ks 6 0 vars) w):=by
 have hcm':cap≤9223372036854775807:=by unfold maxLen at hcm;omega
 have hPm':capP≤9223372036854775807:=by unfold maxLen at hPm;omega
 have hls:=Es.len_le_size ks
 obtain ⟨b',o',hK,hks⟩:=hKs
 have HKS:=hid hks;clear hks
 have HFS:=hid hFS;clear hFS
 obtain ⟨F,hF⟩:∃ F,F=formedL P funcs ks 6 0 vars:=⟨_,rfl⟩
 have HF:=hid hF
 rw [←hF]
 clear hF
 have l1:((ks.len:Int)==2)=true:=by simp;omega
 have l2:((ks.len:Int) != 2)=false:=by simp;omega
 have hkl:ks.len≤2:=by omega
 have HL:=hid hl;clear hl
 go_enter Tryz.func154,Tryz.ntmps154
 go_wp2
 go_loopw [156] (fun i wr=>∃ (j:Nat) (es':Es),i=.int .i64 (j:Int)∧j+es'.len=ks.len∧Hid (formedL P funcs es' 6 j vars=F)∧Hid (es'.size≤ks.size∧es'.depth≤ks.depth)∧Hid (Cells wr w.heap.size 209 [.slice A P.length capP,.int .i64 funcs])∧Hid (Cells wr (w.heap.size+1) 33 [.int .i64 6,.int .i64 0,.int .i64 0,.int .i64 0,.slice K ks.len cap])∧Hid (ExsAt wr B es' b' (o'+j*5))∧Hid (Below w.heap.size w wr)) (fun i _=>ks.len - (intOf i).toNat)
 case atStart=>
  obtain ⟨q1,q2,q3⟩:=two_boxes w 209 33 [.slice A P.length capP,.int .i64 funcs] [.int .i64 6,.int .i64 0,.int .i64 0,.int .i64 0,.slice K ks.len cap]
  exact ⟨0,ks,by go_num,by omega,HF.out.symm,⟨Nat.le_refl _,Nat.le_refl _⟩,q1,q2,by show ExsAt _ _ _ _ _;rw [Nat.zero_mul,Nat.add_zero];exact HKS.out.below (q3.mono hB),q3⟩
 case round=>
  obtain ⟨j,es',rfl,hj,hy,hsz,HC1,HC2,HE,HB⟩:=hrel
  cases es' with
  | nil=>
   simp only [Es.len] at hj
   go_wp2
   go_ret
   have:=hy.out
   simp only [formedL] at this
   exact ⟨ret_bool this,HB.out⟩
  | cons kk n' p' c' ks' r=>
   simp only [Es.len] at hj
   have hK:=hK (by omega)
   subst hK
   obtain ⟨hel,hr⟩:=HE.out
   have HR:=hid hr
   obtain ⟨hbB,c0,c1,c2,c3,K',cap',b2,o2,c4,hc2,hcm2,hK2,hks2⟩:=hel
   have HK2:Hid (ExSl wr B ks' K'):=⟨b2,o2,hK2,hks2⟩
   have hrs:Hid ((r.size≤ks.size∧r.depth≤ks.depth)∧ks'.size<ks.size∧ks'.depth+1≤ks.depth):=by
    have:=hsz.out
    simp only [Es.size,Es.depth] at this
    exact ⟨⟨by omega,by omega⟩,by omega,by omega⟩
   have a0:wr.cell? ⟨w.heap.size,0,none⟩=some (.slice A P.length capP):=by rw [HC1.out.cell];rfl
   have a1:wr.cell? ⟨w.heap.size,1,none⟩=some (.int .i64 funcs):=by rw [HC1.out.cell];rfl
   have a2:wr.cell? ⟨w.heap.size+1,0,none⟩=some (.int .i64 6):=by rw [HC2.out.cell];rfl
   have a3:=HC1.out.lt
   have a4:=HC2.out.lt
   have hbr:b'<wr.heap.size:=by omega
   clear hr HE hks2
   have HKV:Hid (kidVars 6 vars j=vars):=kidVars_ne (by omega)
   go_wp2_with fail
   refine (IH.out ks' (by have:=hrs.out;omega) kk n' p' c' K' cap' B A capP vars funcs _ (HK2.out.below (by have:=HB.out.size;go_grown)) hc2 hcm2 (HFS.out.below ((HB.out.mono hB).trans (by have:=HB.out.size;go_grown))) hPl hPm (by have:=HB.out.size;simp;omega) f0 f1 (by omega) (by have:=hrs.out;omega) (by have:=hrs.out;omega)).mono ?_;rintro e w2 ⟨rfl,hb2⟩
   have hb3:Below wr.heap.size wr w2:=Below.trans (by go_grown) (hb2.mono (by simp))
   have HE1:Hid (ExsAt w2 B r b' (o'+(j+1)*5)):=by
    have:=HR.out.below (hb3.mono (by have:=HB.out.size;omega))
    rwa [show o'+j*5+5=o'+(j+1)*5 by omega] at this
   have HB2:=hid (bnext HB.out hb3)
   have HC1':=hid (HC1.out.next hb3)
   have HC2':=hid (HC2.out.next hb3)
   have hy2:=hy.out
   simp only [formedL] at hy2
   rw [HKV.out] at hy2
   generalize (nodeOk P funcs vars kk n' p' c' ks'.len&&formedL P funcs ks' kk 0 vars)=bb at hy2 ⊢
   have HY2:=hid hy2
   clear hb2 hb3 HR hy2 HC1 HC2 HK2 HB a0 a1 a2 a3 a4 c0 c1 c2 c3 c4
   cases bb
   ·have HN2:Hid (F=false):=by have:=HY2.out;rw [Bool.false_and] at this;exact this.symm
    go_wp2
    go_ret
    exact ⟨ret_bool HN2.out.symm,HB2.out⟩
   ·have HN2:Hid (formedL P funcs r 6 (j+1) vars=F):=by have:=HY2.out;rw [Bool.true_and] at this;exact this
    go_wp2
    go_roundw
    case rel=>exact ⟨j+1,r,by go_num,by omega,HN2,hrs.out.1,HC1',HC2',HE1,HB2⟩
    case measure=>simp [intOf];omega
theorem formed_go7 (P:List Fn) (m:Nat) (ks:Es) (IH:Hid (∀ (ks:Es),ks.size<m→FormC P ks)) (hm:ks.size<m+1) (K:Option Addr) (cap B:Nat) (A:Option Addr) (capP:Nat) (vars funcs:Int) (w:World) (hKs:ExSl w B ks K) (_hc:ks.len≤cap) (hcm:cap≤maxLen) (hFS:FnSl w B P A) (hPl:P.length≤capP) (hPm:capP≤maxLen) (hB:B≤w.heap.size) (f0:0≤funcs) (f1:funcs≤P.length) (v0:0≤vars) (v1:vars+ks.depth≤2000000) (hsz0:ks.size≤1048576) (hl:ks.len=1) :
  Calls Tryz.prog 154 #[chV A P.length capP funcs,exV 7 0 0 0 K ks.len cap,.int .i64 vars] w (FPost (formedL P funcs ks 7 0 vars) w):=by
 have hcm':cap≤9223372036854775807:=by unfold maxLen at hcm;omega
 have hPm':capP≤9223372036854775807:=by unfold maxLen at hPm;omega
 have hls:=Es.len_le_size ks
 obtain ⟨b',o',hK,hks⟩:=hKs
 have HKS:=hid hks;clear hks
 have HFS:=hid hFS;clear hFS
 obtain ⟨F,hF⟩:∃ F,F=formedL P funcs ks 7 0 vars:=⟨_,rfl⟩
 have HF:=hid hF
 rw [←hF]
 clear hF
 have l1:((ks.len:Int)==1)=true:=by simp;omega
 have l2:((ks.len:Int) != 1)=false:=by simp;omega
 have hkl:ks.len≤1:=by omega
 have HL:=hid hl;clear hl
 go_enter Tryz.func154,Tryz.ntmps154
 go_wp2
 go_loopw [156] (fun i wr=>∃ (j:Nat) (es':Es),i=.int .i64 (j:Int)∧j+es'.len=ks.len∧Hid (formedL P funcs es' 7 j vars=F)∧Hid (es'.size≤ks.size∧es'.depth≤ks.depth)∧Hid (Cells wr w.heap.size 209 [.slice A P.length capP,.int .i64 funcs])∧Hid (Cells wr (w.heap.size+1) 33 [.int .i64 7,.int .i64 0,.int .i64 0,.int .i64 0,.slice K ks.len cap])∧Hid (ExsAt wr B es' b' (o'+j*5))∧Hid (Below w.heap.size w wr)) (fun i _=>ks.len - (intOf i).toNat)
 case atStart=>
  obtain ⟨q1,q2,q3⟩:=two_boxes w 209 33 [.slice A P.length capP,.int .i64 funcs] [.int .i64 7,.int .i64 0,.int .i64 0,.int .i64 0,.slice K ks.len cap]
  exact ⟨0,ks,by go_num,by omega,HF.out.symm,⟨Nat.le_refl _,Nat.le_refl _⟩,q1,q2,by show ExsAt _ _ _ _ _;rw [Nat.zero_mul,Nat.add_zero];exact HKS.out.below (q3.mono hB),q3⟩
 case round=>
  obtain ⟨j,es',rfl,hj,hy,hsz,HC1,HC2,HE,HB⟩:=hrel
  cases es' with
  | nil=>
   simp only [Es.len] at hj
   go_wp2
   go_ret
   have:=hy.out
   simp only [formedL] at this
   exact ⟨ret_bool this,HB.out⟩
  | cons kk n' p' c' ks' r=>
   simp only [Es.len] at hj
   have hK:=hK (by omega)
   subst hK
   obtain ⟨hel,hr⟩:=HE.out
   have HR:=hid hr
   obtain ⟨hbB,c0,c1,c2,c3,K',cap',b2,o2,c4,hc2,hcm2,hK2,hks2⟩:=hel
   have HK2:Hid (ExSl wr B ks' K'):=⟨b2,o2,hK2,hks2⟩
   have hrs:Hid ((r.size≤ks.size∧r.depth≤ks.depth)∧ks'.size<ks.size∧ks'.depth+1≤ks.depth):=by
    have:=hsz.out
    simp only [Es.size,Es.depth] at this
    exact ⟨⟨by omega,by omega⟩,by omega,by omega⟩
   have a0:wr.cell? ⟨w.heap.size,0,none⟩=some (.slice A P.length capP):=by rw [HC1.out.cell];rfl
   have a1:wr.cell? ⟨w.heap.size,1,none⟩=some (.int .i64 funcs):=by rw [HC1.out.cell];rfl
   have a2:wr.cell? ⟨w.heap.size+1,0,none⟩=some (.int .i64 7):=by rw [HC2.out.cell];rfl
   have a3:=HC1.out.lt
   have a4:=HC2.out.lt
   have hbr:b'<wr.heap.size:=by omega
   clear hr HE hks2
   have HKV:Hid (kidVars 7 vars j=vars):=kidVars_ne (by omega)
   go_wp2_with fail
   refine (IH.out ks' (by have:=hrs.out;omega) kk n' p' c' K' cap' B A capP vars funcs _ (HK2.out.below (by have:=HB.out.size;go_grown)) hc2 hcm2 (HFS.out.below ((HB.out.mono hB).trans (by have:=HB.out.size;go_grown))) hPl hPm (by have:=HB.out.size;simp;omega) f0 f1 (by omega) (by have:=hrs.out;omega) (by have:=hrs.out;omega)).mono ?_;rintro e w2 ⟨rfl,hb2⟩
   have hb3:Below wr.heap.size wr w2:=Below.trans (by go_grown) (hb2.mono (by simp))
   have HE1:Hid (ExsAt w2 B r b' (o'+(j+1)*5)):=by
    have:=HR.out.below (hb3.mono (by have:=HB.out.size;omega))
    rwa [show o'+j*5+5=o'+(j+1)*5 by omega] at this
   have HB2:=hid (bnext HB.out hb3)
   have HC1':=hid (HC1.out.next hb3)
   have HC2':=hid (HC2.out.next hb3)
   have hy2:=hy.out
   simp only [formedL] at hy2
   rw [HKV.out] at hy2
   generalize (nodeOk P funcs vars kk n' p' c' ks'.len&&formedL P funcs ks' kk 0 vars)=bb at hy2 ⊢
   have HY2:=hid hy2
   clear hb2 hb3 HR hy2 HC1 HC2 HK2 HB a0 a1 a2 a3 a4 c0 c1 c2 c3 c4
   cases bb
   ·have HN2:Hid (F=false):=by have:=HY2.out;rw [Bool.false_and] at this;exact this.symm
    go_wp2
    go_ret
    exact ⟨ret_bool HN2.out.symm,HB2.out⟩
   ·have HN2:Hid (formedL P funcs r 7 (j+1) vars=F):=by have:=HY2.out;rw [Bool.true_and] at this;exact this
    go_wp2
    go_roundw
    case rel=>exact ⟨j+1,r,by go_num,by omega,HN2,hrs.out.1,HC1',HC2',HE1,HB2⟩
    case measure=>simp [intOf];omega
theorem formed_go8 (P:List Fn) (m:Nat) (ks:Es) (IH:Hid (∀ (ks:Es),ks.size<m→FormC P ks)) (hm:ks.size<m+1) (K:Option Addr) (cap B:Nat) (A:Option Addr) (capP:Nat) (vars funcs:Int) (w:World) (hKs:ExSl w B ks K) (_hc:ks.len≤cap) (hcm:cap≤maxLen) (hFS:FnSl w B P A) (hPl:P.length≤capP) (hPm:capP≤maxLen) (hB:B≤w.heap.size) (f0:0≤funcs) (f1:funcs≤P.length) (v0:0≤vars) (v1:vars+ks.depth≤2000000) (hsz0:ks.size≤1048576) (hl:ks.len=3) :
  Calls Tryz.prog 154 #[chV A P.length capP funcs,exV 8 0 0 0 K ks.len cap,.int .i64 vars] w (FPost (formedL P funcs ks 8 0 vars) w):=by
 have hcm':cap≤9223372036854775807:=by unfold maxLen at hcm;omega
 have hPm':capP≤9223372036854775807:=by unfold maxLen at hPm;omega
 have hls:=Es.len_le_size ks
 obtain ⟨b',o',hK,hks⟩:=hKs
 have HKS:=hid hks;clear hks
 have HFS:=hid hFS;clear hFS
 obtain ⟨F,hF⟩:∃ F,F=formedL P funcs ks 8 0 vars:=⟨_,rfl⟩
 have HF:=hid hF
 rw [←hF]
 clear hF
 have l1:((ks.len:Int)==3)=true:=by simp;omega
 have l2:((ks.len:Int) != 3)=false:=by simp;omega
 have hkl:ks.len≤3:=by omega
 have HL:=hid hl;clear hl
 go_enter Tryz.func154,Tryz.ntmps154
 go_wp2
 go_loopw [156] (fun i wr=>∃ (j:Nat) (es':Es),i=.int .i64 (j:Int)∧j+es'.len=ks.len∧Hid (formedL P funcs es' 8 j vars=F)∧Hid (es'.size≤ks.size∧es'.depth≤ks.depth)∧Hid (Cells wr w.heap.size 209 [.slice A P.length capP,.int .i64 funcs])∧Hid (Cells wr (w.heap.size+1) 33 [.int .i64 8,.int .i64 0,.int .i64 0,.int .i64 0,.slice K ks.len cap])∧Hid (ExsAt wr B es' b' (o'+j*5))∧Hid (Below w.heap.size w wr)) (fun i _=>ks.len - (intOf i).toNat)
 case atStart=>
  obtain ⟨q1,q2,q3⟩:=two_boxes w 209 33 [.slice A P.length capP,.int .i64 funcs] [.int .i64 8,.int .i64 0,.int .i64 0,.int .i64 0,.slice K ks.len cap]
  exact ⟨0,ks,by go_num,by omega,HF.out.symm,⟨Nat.le_refl _,Nat.le_refl _⟩,q1,q2,by show ExsAt _ _ _ _ _;rw [Nat.zero_mul,Nat.add_zero];exact HKS.out.below (q3.mono hB),q3⟩
 case round=>
  obtain ⟨j,es',rfl,hj,hy,hsz,HC1,HC2,HE,HB⟩:=hrel
  cases es' with
  | nil=>
   simp only [Es.len] at hj
   go_wp2
   go_ret
   have:=hy.out
   simp only [formedL] at this
   exact ⟨ret_bool this,HB.out⟩
  | cons kk n' p' c' ks' r=>
   simp only [Es.len] at hj
   have hK:=hK (by omega)
   subst hK
   obtain ⟨hel,hr⟩:=HE.out
   have HR:=hid hr
   obtain ⟨hbB,c0,c1,c2,c3,K',cap',b2,o2,c4,hc2,hcm2,hK2,hks2⟩:=hel
   have HK2:Hid (ExSl wr B ks' K'):=⟨b2,o2,hK2,hks2⟩
   have hrs:Hid ((r.size≤ks.size∧r.depth≤ks.depth)∧ks'.size<ks.size∧ks'.depth+1≤ks.depth):=by
    have:=hsz.out
    simp only [Es.size,Es.depth] at this
    exact ⟨⟨by omega,by omega⟩,by omega,by omega⟩
   have a0:wr.cell? ⟨w.heap.size,0,none⟩=some (.slice A P.length capP):=by rw [HC1.out.cell];rfl
   have a1:wr.cell? ⟨w.heap.size,1,none⟩=some (.int .i64 funcs):=by rw [HC1.out.cell];rfl
   have a2:wr.cell? ⟨w.heap.size+1,0,none⟩=some (.int .i64 8):=by rw [HC2.out.cell];rfl
   have a3:=HC1.out.lt
   have a4:=HC2.out.lt
   have hbr:b'<wr.heap.size:=by omega
   clear hr HE hks2
   have HKV:Hid (kidVars 8 vars j=vars):=kidVars_ne (by omega)
   go_wp2_with fail
   refine (IH.out ks' (by have:=hrs.out;omega) kk n' p' c' K' cap' B A capP vars funcs _ (HK2.out.below (by have:=HB.out.size;go_grown)) hc2 hcm2 (HFS.out.below ((HB.out.mono hB).trans (by have:=HB.out.size;go_grown))) hPl hPm (by have:=HB.out.size;simp;omega) f0 f1 (by omega) (by have:=hrs.out;omega) (by have:=hrs.out;omega)).mono ?_;rintro e w2 ⟨rfl,hb2⟩
   have hb3:Below wr.heap.size wr w2:=Below.trans (by go_grown) (hb2.mono (by simp))
   have HE1:Hid (ExsAt w2 B r b' (o'+(j+1)*5)):=by
    have:=HR.out.below (hb3.mono (by have:=HB.out.size;omega))
    rwa [show o'+j*5+5=o'+(j+1)*5 by omega] at this
   have HB2:=hid (bnext HB.out hb3)
   have HC1':=hid (HC1.out.next hb3)
   have HC2':=hid (HC2.out.next hb3)
   have hy2:=hy.out
   simp only [formedL] at hy2
   rw [HKV.out] at hy2
   generalize (nodeOk P funcs vars kk n' p' c' ks'.len&&formedL P funcs ks' kk 0 vars)=bb at hy2 ⊢
   have HY2:=hid hy2
   clear hb2 hb3 HR hy2 HC1 HC2 HK2 HB a0 a1 a2 a3 a4 c0 c1 c2 c3 c4
   cases bb
   ·have HN2:Hid (F=false):=by have:=HY2.out;rw [Bool.false_and] at this;exact this.symm
    go_wp2
    go_ret
    exact ⟨ret_bool HN2.out.symm,HB2.out⟩
   ·have HN2:Hid (formedL P funcs r 8 (j+1) vars=F):=by have:=HY2.out;rw [Bool.true_and] at this;exact this
    go_wp2
    go_roundw
    case rel=>exact ⟨j+1,r,by go_num,by omega,HN2,hrs.out.1,HC1',HC2',HE1,HB2⟩
    case measure=>simp [intOf];omega
theorem formed_go9 (P:List Fn) (m:Nat) (ks:Es) (IH:Hid (∀ (ks:Es),ks.size<m→FormC P ks)) (hm:ks.size<m+1) (K:Option Addr) (cap B:Nat) (A:Option Addr) (capP:Nat) (vars funcs:Int) (w:World) (hKs:ExSl w B ks K) (_hc:ks.len≤cap) (hcm:cap≤maxLen) (hFS:FnSl w B P A) (hPl:P.length≤capP) (hPm:capP≤maxLen) (hB:B≤w.heap.size) (f0:0≤funcs) (f1:funcs≤P.length) (v0:0≤vars) (v1:vars+ks.depth≤2000000) (hsz0:ks.size≤1048576) (hl:ks.len=2) :
  Calls Tryz.prog 154 #[chV A P.length capP funcs,exV 9 0 0 0 K ks.len cap,.int .i64 vars] w (FPost (formedL P funcs ks 9 0 vars) w):=by
 have hcm':cap≤9223372036854775807:=by unfold maxLen at hcm;omega
 have hPm':capP≤9223372036854775807:=by unfold maxLen at hPm;omega
 have hls:=Es.len_le_size ks
 obtain ⟨b',o',hK,hks⟩:=hKs
 have HKS:=hid hks;clear hks
 have HFS:=hid hFS;clear hFS
 obtain ⟨F,hF⟩:∃ F,F=formedL P funcs ks 9 0 vars:=⟨_,rfl⟩
 have HF:=hid hF
 rw [←hF]
 clear hF
 have l1:((ks.len:Int)==2)=true:=by simp;omega
 have l2:((ks.len:Int) != 2)=false:=by simp;omega
 have hkl:ks.len≤2:=by omega
 have HL:=hid hl;clear hl
 go_enter Tryz.func154,Tryz.ntmps154
 go_wp2
 go_loopw [156] (fun i wr=>∃ (j:Nat) (es':Es),i=.int .i64 (j:Int)∧j+es'.len=ks.len∧Hid (formedL P funcs es' 9 j vars=F)∧Hid (es'.size≤ks.size∧es'.depth≤ks.depth)∧Hid (Cells wr w.heap.size 209 [.slice A P.length capP,.int .i64 funcs])∧Hid (Cells wr (w.heap.size+1) 33 [.int .i64 9,.int .i64 0,.int .i64 0,.int .i64 0,.slice K ks.len cap])∧Hid (ExsAt wr B es' b' (o'+j*5))∧Hid (Below w.heap.size w wr)) (fun i _=>ks.len - (intOf i).toNat)
 case atStart=>
  obtain ⟨q1,q2,q3⟩:=two_boxes w 209 33 [.slice A P.length capP,.int .i64 funcs] [.int .i64 9,.int .i64 0,.int .i64 0,.int .i64 0,.slice K ks.len cap]
  exact ⟨0,ks,by go_num,by omega,HF.out.symm,⟨Nat.le_refl _,Nat.le_refl _⟩,q1,q2,by show ExsAt _ _ _ _ _;rw [Nat.zero_mul,Nat.add_zero];exact HKS.out.below (q3.mono hB),q3⟩
 case round=>
  obtain ⟨j,es',rfl,hj,hy,hsz,HC1,HC2,HE,HB⟩:=hrel
  cases es' with
  | nil=>
   simp only [Es.len] at hj
   go_wp2
   go_ret
   have:=hy.out
   simp only [formedL] at this
   exact ⟨ret_bool this,HB.out⟩
  | cons kk n' p' c' ks' r=>
   simp only [Es.len] at hj
   have hK:=hK (by omega)
   subst hK
   obtain ⟨hel,hr⟩:=HE.out
   have HR:=hid hr
   obtain ⟨hbB,c0,c1,c2,c3,K',cap',b2,o2,c4,hc2,hcm2,hK2,hks2⟩:=hel
   have HK2:Hid (ExSl wr B ks' K'):=⟨b2,o2,hK2,hks2⟩
   have hrs:Hid ((r.size≤ks.size∧r.depth≤ks.depth)∧ks'.size<ks.size∧ks'.depth+1≤ks.depth):=by
    have:=hsz.out
    simp only [Es.size,Es.depth] at this
    exact ⟨⟨by omega,by omega⟩,by omega,by omega⟩
   have a0:wr.cell? ⟨w.heap.size,0,none⟩=some (.slice A P.length capP):=by rw [HC1.out.cell];rfl
   have a1:wr.cell? ⟨w.heap.size,1,none⟩=some (.int .i64 funcs):=by rw [HC1.out.cell];rfl
   have a2:wr.cell? ⟨w.heap.size+1,0,none⟩=some (.int .i64 9):=by rw [HC2.out.cell];rfl
   have a3:=HC1.out.lt
   have a4:=HC2.out.lt
   have hbr:b'<wr.heap.size:=by omega
   clear hr HE hks2
   by_cases j1:j=1
   ·have HKV:Hid (kidVars 9 vars j=vars+1):=by subst j1;rfl
    have e1:((j:Int)==1)=true:=by simp;omega
    clear j1
    go_wp2_with fail
    refine (IH.out ks' (by have:=hrs.out;omega) kk n' p' c' K' cap' B A capP (vars+1) funcs _ (HK2.out.below (by have:=HB.out.size;go_grown)) hc2 hcm2 (HFS.out.below ((HB.out.mono hB).trans (by have:=HB.out.size;go_grown))) hPl hPm (by have:=HB.out.size;simp;omega) f0 f1 (by omega) (by have:=hrs.out;omega) (by have:=hrs.out;omega)).mono ?_;rintro e w2 ⟨rfl,hb2⟩
    have hb3:Below wr.heap.size wr w2:=Below.trans (by go_grown) (hb2.mono (by simp))
    have HE1:Hid (ExsAt w2 B r b' (o'+(j+1)*5)):=by
     have:=HR.out.below (hb3.mono (by have:=HB.out.size;omega))
     rwa [show o'+j*5+5=o'+(j+1)*5 by omega] at this
    have HB2:=hid (bnext HB.out hb3)
    have HC1':=hid (HC1.out.next hb3)
    have HC2':=hid (HC2.out.next hb3)
    have hy2:=hy.out
    simp only [formedL] at hy2
    rw [HKV.out] at hy2
    generalize (nodeOk P funcs (vars+1) kk n' p' c' ks'.len&&formedL P funcs ks' kk 0 (vars+1))=bb at hy2 ⊢
    have HY2:=hid hy2
    clear hb2 hb3 HR hy2 HC1 HC2 HK2 HB a0 a1 a2 a3 a4 c0 c1 c2 c3 c4
    cases bb
    ·have HN2:Hid (F=false):=by have:=HY2.out;rw [Bool.false_and] at this;exact this.symm
     go_wp2
     go_ret
     exact ⟨ret_bool HN2.out.symm,HB2.out⟩
    ·have HN2:Hid (formedL P funcs r 9 (j+1) vars=F):=by have:=HY2.out;rw [Bool.true_and] at this;exact this
     go_wp2
     go_roundw
     case rel=>exact ⟨j+1,r,by go_num,by omega,HN2,hrs.out.1,HC1',HC2',HE1,HB2⟩
     case measure=>simp [intOf];omega
   ·have HKV:Hid (kidVars 9 vars j=vars):=kidVars_no j1
    have e1:((j:Int)==1)=false:=by simp;omega
    clear j1
    go_wp2_with fail
    refine (IH.out ks' (by have:=hrs.out;omega) kk n' p' c' K' cap' B A capP vars funcs _ (HK2.out.below (by have:=HB.out.size;go_grown)) hc2 hcm2 (HFS.out.below ((HB.out.mono hB).trans (by have:=HB.out.size;go_grown))) hPl hPm (by have:=HB.out.size;simp;omega) f0 f1 (by omega) (by have:=hrs.out;omega) (by have:=hrs.out;omega)).mono ?_;rintro e w2 ⟨rfl,hb2⟩
    have hb3:Below wr.heap.size wr w2:=Below.trans (by go_grown) (hb2.mono (by simp))
    have HE1:Hid (ExsAt w2 B r b' (o'+(j+1)*5)):=by
     have:=HR.out.below (hb3.mono (by have:=HB.out.size;omega))
     rwa [show o'+j*5+5=o'+(j+1)*5 by omega] at this
    have HB2:=hid (bnext HB.out hb3)
    have HC1':=hid (HC1.out.next hb3)
    have HC2':=hid (HC2.out.next hb3)
    have hy2:=hy.out
    simp only [formedL] at hy2
    rw [HKV.out] at hy2
    generalize (nodeOk P funcs vars kk n' p' c' ks'.len&&formedL P funcs ks' kk 0 vars)=bb at hy2 ⊢
    have HY2:=hid hy2
    clear hb2 hb3 HR hy2 HC1 HC2 HK2 HB a0 a1 a2 a3 a4 c0 c1 c2 c3 c4
    cases bb
    ·have HN2:Hid (F=false):=by have:=HY2.out;rw [Bool.false_and] at this;exact this.symm
     go_wp2
     go_ret
     exact ⟨ret_bool HN2.out.symm,HB2.out⟩
    ·have HN2:Hid (formedL P funcs r 9 (j+1) vars=F):=by have:=HY2.out;rw [Bool.true_and] at this;exact this
     go_wp2
     go_roundw
     case rel=>exact ⟨j+1,r,by go_num,by omega,HN2,hrs.out.1,HC1',HC2',HE1,HB2⟩
     case measure=>simp [intOf];omega
theorem formed_go10 (P:List Fn) (m:Nat) (ks:Es) (IH:Hid (∀ (ks:Es),ks.size<m→FormC P ks)) (hm:ks.size<m+1) (fi:Nat) (p c:Int) (K:Option Addr) (cap B:Nat) (A:Option Addr) (capP:Nat) (vars funcs:Int) (w:World) (hKs:ExSl w B ks K) (_hc:ks.len≤cap) (hcm:cap≤maxLen) (hFS:FnSl w B P A) (hPl:P.length≤capP) (hPm:capP≤maxLen) (hB:B≤w.heap.size) (f0:0≤funcs) (f1:funcs≤P.length) (v0:0≤vars) (v1:vars+ks.depth≤2000000) (hsz0:ks.size≤1048576) (hok:nodeOk P funcs vars 10 fi p c ks.len=true) :
  Calls Tryz.prog 154 #[chV A P.length capP funcs,exV 10 fi p c K ks.len cap,.int .i64 vars] w (FPost (formedL P funcs ks 10 0 vars) w):=by
 have hcm':cap≤9223372036854775807:=by unfold maxLen at hcm;omega
 have hPm':capP≤9223372036854775807:=by unfold maxLen at hPm;omega
 have hls:=Es.len_le_size ks
 obtain ⟨b',o',hK,hks⟩:=hKs
 have HKS:=hid hks;clear hks
 have HFS:=hid hFS;clear hFS
 obtain ⟨F,hF⟩:∃ F,F=formedL P funcs ks 10 0 vars:=⟨_,rfl⟩
 have HF:=hid hF
 rw [←hF]
 clear hF
 have hn:inR fi 0 (funcs - 1)=true:=by
  cases h:inR fi 0 (funcs - 1)
  ·rw [nodeOk_no (by omega) h] at hok;cases hok
  ·rfl
 obtain ⟨n0,n1⟩:=inR_true.1 hn
 obtain ⟨f,hf⟩:∃ f,P[fi]? = some f:=⟨P[fi]'(by omega),List.getElem?_eq_getElem _⟩
 have HN:=hid ((nodeOk_call (vars:=vars) (p:=p) (c:=c) (len:=ks.len) (k:=10) (by omega) (show P[(fi:Int).toNat]? = some f from hf) hn).symm.trans hok)
 obtain ⟨bF,oF,rfl,hbF,g0,g1,_,KF,cF,g2,hcF,hcFm,_⟩:=HFS.out.get hf
 have hcF':cF≤9223372036854775807:=by unfold maxLen at hcFm;omega
 have hl4:((f.outs.len:Nat):Int)≤9223372036854775807:=by omega
 have hl5:((ks.len:Nat):Int)≤9223372036854775807:=by omega
 have hNN:=hid hn
 have hbw:bF<w.heap.size:=by omega
 have hml:fi<P.length:=(List.getElem?_eq_some_iff.1 hf).1
 have hml2:(fi:Int)<(P.length:Int):=by omega
 have HPP:Hid (inR p 0 ((f.outs.len:Int) - 1)=true):=by
  have:=HN.out
  rw [Bool.and_eq_true,Bool.and_eq_true] at this
  exact this.1.2
 have HLL:Hid ((ks.len:Int)=f.params):=by
  have:=HN.out
  rw [Bool.and_eq_true,Bool.and_eq_true] at this
  show _=_
  exact of_decide_eq_true this.1.1
 have l1:((ks.len:Int)==f.params)=true:=by simpa using HLL.out
 have l2:((ks.len:Int) != f.params)=false:=by simpa using HLL.out
 have HC0:Hid (c=0):=by
  have:=HN.out
  rw [Bool.and_eq_true] at this
  show _=_
  simpa using this.2
 obtain rfl:c=0:=HC0.out
 clear hok hn hf
 have key:p=0∨(p==0)=false:=by
  by_cases h:p=0
  ·exact .inl h
  ·exact .inr (by simpa using h)
 rcases key with rfl | hp0
 ·go_enter Tryz.func154,Tryz.ntmps154
  go_wp2_with fail
  refine (within_any _ _ _ _).mono ?_;rintro e w' ⟨rfl,rfl⟩
  rw [hNN.out]
  go_wp2_with fail
  refine (within_any _ _ _ _).mono ?_;rintro e w' ⟨rfl,rfl⟩
  rw [HPP.out]
  go_wp2
  clear g0 g1 g2 l1 l2 hml hml2 hl4 hl5 n0 n1
  go_loopw [156] (fun i wr=>∃ (j:Nat) (es':Es),i=.int .i64 (j:Int)∧j+es'.len=ks.len∧Hid (formedL P funcs es' 10 j vars=F)∧Hid (es'.size≤ks.size∧es'.depth≤ks.depth)∧Hid (Cells wr w.heap.size 209 [.slice (some ⟨bF,oF,none⟩) P.length capP,.int .i64 funcs])∧Hid (Cells wr (w.heap.size+1) 33 [.int .i64 10,.int .i64 fi,.int .i64 0,.int .i64 0,.slice K ks.len cap])∧Hid (ExsAt wr B es' b' (o'+j*5))∧Hid (Below w.heap.size w wr)) (fun i _=>ks.len - (intOf i).toNat)
  case atStart=>
   obtain ⟨q1,q2,q3⟩:=two_boxes w 209 33 [.slice (some ⟨bF,oF,none⟩) P.length capP,.int .i64 funcs] [.int .i64 10,.int .i64 fi,.int .i64 0,.int .i64 0,.slice K ks.len cap]
   have q4:Below w.heap.size w (((w.alloc (.cells [Value.slice (some ⟨bF,oF,none⟩) P.length capP,.int .i64 funcs].toArray 209)).alloc (.cells [Value.int .i64 10,.int .i64 fi,.int .i64 0,.int .i64 0,.slice K ks.len cap].toArray 33)).alloc (.cells [Value.string f.name,.int .i64 f.params,.slice KF f.outs.len cF].toArray 146)):=by go_grown
   exact ⟨0,ks,by go_num,by omega,HF.out.symm,⟨Nat.le_refl _,Nat.le_refl _⟩,q1.next (by go_grown),q2.next (by go_grown),by show ExsAt _ _ _ _ _;rw [Nat.zero_mul,Nat.add_zero];exact HKS.out.below (q4.mono hB),q4⟩
  case round=>
   obtain ⟨j,es',rfl,hj,hy,hsz,HC1,HC2,HE,HB⟩:=hrel
   cases es' with
   | nil=>
    simp only [Es.len] at hj
    go_wp2
    go_ret
    have:=hy.out
    simp only [formedL] at this
    exact ⟨ret_bool this,HB.out⟩
   | cons kk n' p' c' ks' r=>
    simp only [Es.len] at hj
    have hK:=hK (by omega)
    subst hK
    obtain ⟨hel,hr⟩:=HE.out
    have HR:=hid hr
    obtain ⟨hbB,c0,c1,c2,c3,K',cap',b2,o2,c4,hc2,hcm2,hK2,hks2⟩:=hel
    have HK2:Hid (ExSl wr B ks' K'):=⟨b2,o2,hK2,hks2⟩
    have hrs:Hid ((r.size≤ks.size∧r.depth≤ks.depth)∧ks'.size<ks.size∧ks'.depth+1≤ks.depth):=by
     have:=hsz.out
     simp only [Es.size,Es.depth] at this
     exact ⟨⟨by omega,by omega⟩,by omega,by omega⟩
    have a0:wr.cell? ⟨w.heap.size,0,none⟩=some (.slice (some ⟨bF,oF,none⟩) P.length capP):=by rw [HC1.out.cell];rfl
    have a1:wr.cell? ⟨w.heap.size,1,none⟩=some (.int .i64 funcs):=by rw [HC1.out.cell];rfl
    have a2:wr.cell? ⟨w.heap.size+1,0,none⟩=some (.int .i64 10):=by rw [HC2.out.cell];rfl
    have a3:=HC1.out.lt
    have a4:=HC2.out.lt
    have hbr:b'<wr.heap.size:=by omega
    clear hr HE hks2
    have HKV:Hid (kidVars 10 vars j=vars):=kidVars_ne (by omega)
    go_wp2_with fail
    refine (IH.out ks' (by have:=hrs.out;omega) kk n' p' c' K' cap' B (some ⟨bF,oF,none⟩) capP vars funcs _ (HK2.out.below (by have:=HB.out.size;go_grown)) hc2 hcm2 (HFS.out.below ((HB.out.mono hB).trans (by have:=HB.out.size;go_grown))) hPl hPm (by have:=HB.out.size;simp;omega) f0 f1 (by omega) (by have:=hrs.out;omega) (by have:=hrs.out;omega)).mono ?_;rintro e w2 ⟨rfl,hb2⟩
    have hb3:Below wr.heap.size wr w2:=Below.trans (by go_grown) (hb2.mono (by simp))
    have HE1:Hid (ExsAt w2 B r b' (o'+(j+1)*5)):=by
     have:=HR.out.below (hb3.mono (by have:=HB.out.size;omega))
     rwa [show o'+j*5+5=o'+(j+1)*5 by omega] at this
    have HB2:=hid (bnext HB.out hb3)
    have HC1':=hid (HC1.out.next hb3)
    have HC2':=hid (HC2.out.next hb3)
    have hy2:=hy.out
    simp only [formedL] at hy2
    rw [HKV.out] at hy2
    generalize (nodeOk P funcs vars kk n' p' c' ks'.len&&formedL P funcs ks' kk 0 vars)=bb at hy2 ⊢
    have HY2:=hid hy2
    clear hb2 hb3 HR hy2 HC1 HC2 HK2 HB a0 a1 a2 a3 a4 c0 c1 c2 c3 c4
    cases bb
    ·have HN2:Hid (F=false):=by have:=HY2.out;rw [Bool.false_and] at this;exact this.symm
     go_wp2
     go_ret
     exact ⟨ret_bool HN2.out.symm,HB2.out⟩
    ·have HN2:Hid (formedL P funcs r 10 (j+1) vars=F):=by have:=HY2.out;rw [Bool.true_and] at this;exact this
     go_wp2
     go_roundw
     case rel=>exact ⟨j+1,r,by go_num,by omega,HN2,hrs.out.1,HC1',HC2',HE1,HB2⟩
     case measure=>simp [intOf];omega
 ·go_enter Tryz.func154,Tryz.ntmps154
  go_wp2_with fail
  refine (within_any _ _ _ _).mono ?_;rintro e w' ⟨rfl,rfl⟩
  rw [hNN.out]
  go_wp2_with fail
  refine (within_any _ _ _ _).mono ?_;rintro e w' ⟨rfl,rfl⟩
  rw [HPP.out]
  go_wp2
  clear g0 g1 g2 l1 l2 hml hml2 hl4 hl5 n0 n1
  go_loopw [156] (fun i wr=>∃ (j:Nat) (es':Es),i=.int .i64 (j:Int)∧j+es'.len=ks.len∧Hid (formedL P funcs es' 10 j vars=F)∧Hid (es'.size≤ks.size∧es'.depth≤ks.depth)∧Hid (Cells wr w.heap.size 209 [.slice (some ⟨bF,oF,none⟩) P.length capP,.int .i64 funcs])∧Hid (Cells wr (w.heap.size+1) 33 [.int .i64 10,.int .i64 fi,.int .i64 p,.int .i64 0,.slice K ks.len cap])∧Hid (ExsAt wr B es' b' (o'+j*5))∧Hid (Below w.heap.size w wr)) (fun i _=>ks.len - (intOf i).toNat)
  case atStart=>
   obtain ⟨q1,q2,q3⟩:=two_boxes w 209 33 [.slice (some ⟨bF,oF,none⟩) P.length capP,.int .i64 funcs] [.int .i64 10,.int .i64 fi,.int .i64 p,.int .i64 0,.slice K ks.len cap]
   have q4:Below w.heap.size w (((w.alloc (.cells [Value.slice (some ⟨bF,oF,none⟩) P.length capP,.int .i64 funcs].toArray 209)).alloc (.cells [Value.int .i64 10,.int .i64 fi,.int .i64 p,.int .i64 0,.slice K ks.len cap].toArray 33)).alloc (.cells [Value.string f.name,.int .i64 f.params,.slice KF f.outs.len cF].toArray 146)):=by go_grown
   exact ⟨0,ks,by go_num,by omega,HF.out.symm,⟨Nat.le_refl _,Nat.le_refl _⟩,q1.next (by go_grown),q2.next (by go_grown),by show ExsAt _ _ _ _ _;rw [Nat.zero_mul,Nat.add_zero];exact HKS.out.below (q4.mono hB),q4⟩
  case round=>
   obtain ⟨j,es',rfl,hj,hy,hsz,HC1,HC2,HE,HB⟩:=hrel
   cases es' with
   | nil=>
    simp only [Es.len] at hj
    go_wp2
    go_ret
    have:=hy.out
    simp only [formedL] at this
    exact ⟨ret_bool this,HB.out⟩
   | cons kk n' p' c' ks' r=>
    simp only [Es.len] at hj
    have hK:=hK (by omega)
    subst hK
    obtain ⟨hel,hr⟩:=HE.out
    have HR:=hid hr
    obtain ⟨hbB,c0,c1,c2,c3,K',cap',b2,o2,c4,hc2,hcm2,hK2,hks2⟩:=hel
    have HK2:Hid (ExSl wr B ks' K'):=⟨b2,o2,hK2,hks2⟩
    have hrs:Hid ((r.size≤ks.size∧r.depth≤ks.depth)∧ks'.size<ks.size∧ks'.depth+1≤ks.depth):=by
     have:=hsz.out
     simp only [Es.size,Es.depth] at this
     exact ⟨⟨by omega,by omega⟩,by omega,by omega⟩
    have a0:wr.cell? ⟨w.heap.size,0,none⟩=some (.slice (some ⟨bF,oF,none⟩) P.length capP):=by rw [HC1.out.cell];rfl
    have a1:wr.cell? ⟨w.heap.size,1,none⟩=some (.int .i64 funcs):=by rw [HC1.out.cell];rfl
    have a2:wr.cell? ⟨w.heap.size+1,0,none⟩=some (.int .i64 10):=by rw [HC2.out.cell];rfl
    have a3:=HC1.out.lt
    have a4:=HC2.out.lt
    have hbr:b'<wr.heap.size:=by omega
    clear hr HE hks2
    have HKV:Hid (kidVars 10 vars j=vars):=kidVars_ne (by omega)
    go_wp2_with fail
    refine (IH.out ks' (by have:=hrs.out;omega) kk n' p' c' K' cap' B (some ⟨bF,oF,none⟩) capP vars funcs _ (HK2.out.below (by have:=HB.out.size;go_grown)) hc2 hcm2 (HFS.out.below ((HB.out.mono hB).trans (by have:=HB.out.size;go_grown))) hPl hPm (by have:=HB.out.size;simp;omega) f0 f1 (by omega) (by have:=hrs.out;omega) (by have:=hrs.out;omega)).mono ?_;rintro e w2 ⟨rfl,hb2⟩
    have hb3:Below wr.heap.size wr w2:=Below.trans (by go_grown) (hb2.mono (by simp))
    have HE1:Hid (ExsAt w2 B r b' (o'+(j+1)*5)):=by
     have:=HR.out.below (hb3.mono (by have:=HB.out.size;omega))
     rwa [show o'+j*5+5=o'+(j+1)*5 by omega] at this
    have HB2:=hid (bnext HB.out hb3)
    have HC1':=hid (HC1.out.next hb3)
    have HC2':=hid (HC2.out.next hb3)
    have hy2:=hy.out
    simp only [formedL] at hy2
    rw [HKV.out] at hy2
    generalize (nodeOk P funcs vars kk n' p' c' ks'.len&&formedL P funcs ks' kk 0 vars)=bb at hy2 ⊢
    have HY2:=hid hy2
    clear hb2 hb3 HR hy2 HC1 HC2 HK2 HB a0 a1 a2 a3 a4 c0 c1 c2 c3 c4
    cases bb
    ·have HN2:Hid (F=false):=by have:=HY2.out;rw [Bool.false_and] at this;exact this.symm
     go_wp2
     go_ret
     exact ⟨ret_bool HN2.out.symm,HB2.out⟩
    ·have HN2:Hid (formedL P funcs r 10 (j+1) vars=F):=by have:=HY2.out;rw [Bool.true_and] at this;exact this
     go_wp2
     go_roundw
     case rel=>exact ⟨j+1,r,by go_num,by omega,HN2,hrs.out.1,HC1',HC2',HE1,HB2⟩
     case measure=>simp [intOf];omega
theorem formed_go11 (P:List Fn) (m:Nat) (ks:Es) (IH:Hid (∀ (ks:Es),ks.size<m→FormC P ks)) (hm:ks.size<m+1) (fi:Nat) (p c:Int) (K:Option Addr) (cap B:Nat) (A:Option Addr) (capP:Nat) (vars funcs:Int) (w:World) (hKs:ExSl w B ks K) (_hc:ks.len≤cap) (hcm:cap≤maxLen) (hFS:FnSl w B P A) (hPl:P.length≤capP) (hPm:capP≤maxLen) (hB:B≤w.heap.size) (f0:0≤funcs) (f1:funcs≤P.length) (v0:0≤vars) (v1:vars+ks.depth≤2000000) (hsz0:ks.size≤1048576) (hok:nodeOk P funcs vars 11 fi p c ks.len=true) :
  Calls Tryz.prog 154 #[chV A P.length capP funcs,exV 11 fi p c K ks.len cap,.int .i64 vars] w (FPost (formedL P funcs ks 11 0 vars) w):=by
 have hcm':cap≤9223372036854775807:=by unfold maxLen at hcm;omega
 have hPm':capP≤9223372036854775807:=by unfold maxLen at hPm;omega
 have hls:=Es.len_le_size ks
 obtain ⟨b',o',hK,hks⟩:=hKs
 have HKS:=hid hks;clear hks
 have HFS:=hid hFS;clear hFS
 obtain ⟨F,hF⟩:∃ F,F=formedL P funcs ks 11 0 vars:=⟨_,rfl⟩
 have HF:=hid hF
 rw [←hF]
 clear hF
 have hn:inR fi 0 (funcs - 1)=true:=by
  cases h:inR fi 0 (funcs - 1)
  ·rw [nodeOk_no (by omega) h] at hok;cases hok
  ·rfl
 obtain ⟨n0,n1⟩:=inR_true.1 hn
 obtain ⟨f,hf⟩:∃ f,P[fi]? = some f:=⟨P[fi]'(by omega),List.getElem?_eq_getElem _⟩
 have HN:=hid ((nodeOk_call (vars:=vars) (p:=p) (c:=c) (len:=ks.len) (k:=11) (by omega) (show P[(fi:Int).toNat]? = some f from hf) hn).symm.trans hok)
 obtain ⟨bF,oF,rfl,hbF,g0,g1,_,KF,cF,g2,hcF,hcFm,_⟩:=HFS.out.get hf
 have hcF':cF≤9223372036854775807:=by unfold maxLen at hcFm;omega
 have hl4:((f.outs.len:Nat):Int)≤9223372036854775807:=by omega
 have hl5:((ks.len:Nat):Int)≤9223372036854775807:=by omega
 have hNN:=hid hn
 have hbw:bF<w.heap.size:=by omega
 have hml:fi<P.length:=(List.getElem?_eq_some_iff.1 hf).1
 have hml2:(fi:Int)<(P.length:Int):=by omega
 have HPP:Hid (inR p 0 ((f.outs.len:Int) - 1)=true):=by
  have:=HN.out
  rw [Bool.and_eq_true,Bool.and_eq_true] at this
  exact this.1.2
 have HLL:Hid ((ks.len:Int)=f.params):=by
  have:=HN.out
  rw [Bool.and_eq_true,Bool.and_eq_true] at this
  show _=_
  exact of_decide_eq_true this.1.1
 have l1:((ks.len:Int)==f.params)=true:=by simpa using HLL.out
 have l2:((ks.len:Int) != f.params)=false:=by simpa using HLL.out
 have HC8:Hid (inR c 0 8=true):=by
  have:=HN.out
  rw [Bool.and_eq_true] at this
  have:=this.2
  rw [if_neg (by omega),Bool.and_eq_true] at this
  exact this.2
 have HOO:Hid ((f.outs.len:Int)=f.params):=by
  have:=HN.out
  rw [Bool.and_eq_true] at this
  have:=this.2
  rw [if_neg (by omega),Bool.and_eq_true] at this
  show _=_
  exact of_decide_eq_true this.1
 have l3:((f.outs.len:Int)==f.params)=true:=by simpa using HOO.out
 have l4:((f.outs.len:Int) != f.params)=false:=by simpa using HOO.out
 clear hok hn hf
 have key:p=0∨(p==0)=false:=by
  by_cases h:p=0
  ·exact .inl h
  ·exact .inr (by simpa using h)
 rcases key with rfl | hp0
 ·go_enter Tryz.func154,Tryz.ntmps154
  go_wp2_with fail
  refine (within_any _ _ _ _).mono ?_;rintro e w' ⟨rfl,rfl⟩
  rw [hNN.out]
  go_wp2_with fail
  refine (within_any _ _ _ _).mono ?_;rintro e w' ⟨rfl,rfl⟩
  rw [HPP.out]
  go_wp2_with fail
  refine (within_any _ _ _ _).mono ?_;rintro e w' ⟨rfl,rfl⟩
  rw [HC8.out]
  go_wp2
  clear g0 g1 g2 l1 l2 hml hml2 hl4 hl5 n0 n1
  go_loopw [156] (fun i wr=>∃ (j:Nat) (es':Es),i=.int .i64 (j:Int)∧j+es'.len=ks.len∧Hid (formedL P funcs es' 11 j vars=F)∧Hid (es'.size≤ks.size∧es'.depth≤ks.depth)∧Hid (Cells wr w.heap.size 209 [.slice (some ⟨bF,oF,none⟩) P.length capP,.int .i64 funcs])∧Hid (Cells wr (w.heap.size+1) 33 [.int .i64 11,.int .i64 fi,.int .i64 0,.int .i64 c,.slice K ks.len cap])∧Hid (ExsAt wr B es' b' (o'+j*5))∧Hid (Below w.heap.size w wr)) (fun i _=>ks.len - (intOf i).toNat)
  case atStart=>
   obtain ⟨q1,q2,q3⟩:=two_boxes w 209 33 [.slice (some ⟨bF,oF,none⟩) P.length capP,.int .i64 funcs] [.int .i64 11,.int .i64 fi,.int .i64 0,.int .i64 c,.slice K ks.len cap]
   have q4:Below w.heap.size w (((w.alloc (.cells [Value.slice (some ⟨bF,oF,none⟩) P.length capP,.int .i64 funcs].toArray 209)).alloc (.cells [Value.int .i64 11,.int .i64 fi,.int .i64 0,.int .i64 c,.slice K ks.len cap].toArray 33)).alloc (.cells [Value.string f.name,.int .i64 f.params,.slice KF f.outs.len cF].toArray 146)):=by go_grown
   exact ⟨0,ks,by go_num,by omega,HF.out.symm,⟨Nat.le_refl _,Nat.le_refl _⟩,q1.next (by go_grown),q2.next (by go_grown),by show ExsAt _ _ _ _ _;rw [Nat.zero_mul,Nat.add_zero];exact HKS.out.below (q4.mono hB),q4⟩
  case round=>
   obtain ⟨j,es',rfl,hj,hy,hsz,HC1,HC2,HE,HB⟩:=hrel
   cases es' with
   | nil=>
    simp only [Es.len] at hj
    go_wp2
    go_ret
    have:=hy.out
    simp only [formedL] at this
    exact ⟨ret_bool this,HB.out⟩
   | cons kk n' p' c' ks' r=>
    simp only [Es.len] at hj
    have hK:=hK (by omega)
    subst hK
    obtain ⟨hel,hr⟩:=HE.out
    have HR:=hid hr
    obtain ⟨hbB,c0,c1,c2,c3,K',cap',b2,o2,c4,hc2,hcm2,hK2,hks2⟩:=hel
    have HK2:Hid (ExSl wr B ks' K'):=⟨b2,o2,hK2,hks2⟩
    have hrs:Hid ((r.size≤ks.size∧r.depth≤ks.depth)∧ks'.size<ks.size∧ks'.depth+1≤ks.depth):=by
     have:=hsz.out
     simp only [Es.size,Es.depth] at this
     exact ⟨⟨by omega,by omega⟩,by omega,by omega⟩
    have a0:wr.cell? ⟨w.heap.size,0,none⟩=some (.slice (some ⟨bF,oF,none⟩) P.length capP):=by rw [HC1.out.cell];rfl
    have a1:wr.cell? ⟨w.heap.size,1,none⟩=some (.int .i64 funcs):=by rw [HC1.out.cell];rfl
    have a2:wr.cell? ⟨w.heap.size+1,0,none⟩=some (.int .i64 11):=by rw [HC2.out.cell];rfl
    have a3:=HC1.out.lt
    have a4:=HC2.out.lt
    have hbr:b'<wr.heap.size:=by omega
    clear hr HE hks2
    have HKV:Hid (kidVars 11 vars j=vars):=kidVars_ne (by omega)
    go_wp2_with fail
    refine (IH.out ks' (by have:=hrs.out;omega) kk n' p' c' K' cap' B (some ⟨bF,oF,none⟩) capP vars funcs _ (HK2.out.below (by have:=HB.out.size;go_grown)) hc2 hcm2 (HFS.out.below ((HB.out.mono hB).trans (by have:=HB.out.size;go_grown))) hPl hPm (by have:=HB.out.size;simp;omega) f0 f1 (by omega) (by have:=hrs.out;omega) (by have:=hrs.out;omega)).mono ?_;rintro e w2 ⟨rfl,hb2⟩
    have hb3:Below wr.heap.size wr w2:=Below.trans (by go_grown) (hb2.mono (by simp))
    have HE1:Hid (ExsAt w2 B r b' (o'+(j+1)*5)):=by
     have:=HR.out.below (hb3.mono (by have:=HB.out.size;omega))
     rwa [show o'+j*5+5=o'+(j+1)*5 by omega] at this
    have HB2:=hid (bnext HB.out hb3)
    have HC1':=hid (HC1.out.next hb3)
    have HC2':=hid (HC2.out.next hb3)
    have hy2:=hy.out
    simp only [formedL] at hy2
    rw [HKV.out] at hy2
    generalize (nodeOk P funcs vars kk n' p' c' ks'.len&&formedL P funcs ks' kk 0 vars)=bb at hy2 ⊢
    have HY2:=hid hy2
    clear hb2 hb3 HR hy2 HC1 HC2 HK2 HB a0 a1 a2 a3 a4 c0 c1 c2 c3 c4
    cases bb
    ·have HN2:Hid (F=false):=by have:=HY2.out;rw [Bool.false_and] at this;exact this.symm
     go_wp2
     go_ret
     exact ⟨ret_bool HN2.out.symm,HB2.out⟩
    ·have HN2:Hid (formedL P funcs r 11 (j+1) vars=F):=by have:=HY2.out;rw [Bool.true_and] at this;exact this
     go_wp2
     go_roundw
     case rel=>exact ⟨j+1,r,by go_num,by omega,HN2,hrs.out.1,HC1',HC2',HE1,HB2⟩
     case measure=>simp [intOf];omega
 ·go_enter Tryz.func154,Tryz.ntmps154
  go_wp2_with fail
  refine (within_any _ _ _ _).mono ?_;rintro e w' ⟨rfl,rfl⟩
  rw [hNN.out]
  go_wp2_with fail
  refine (within_any _ _ _ _).mono ?_;rintro e w' ⟨rfl,rfl⟩
  rw [HPP.out]
  go_wp2_with fail
  refine (within_any _ _ _ _).mono ?_;rintro e w' ⟨rfl,rfl⟩
  rw [HC8.out]
  go_wp2
  clear g0 g1 g2 l1 l2 hml hml2 hl4 hl5 n0 n1
  go_loopw [156] (fun i wr=>∃ (j:Nat) (es':Es),i=.int .i64 (j:Int)∧j+es'.len=ks.len∧Hid (formedL P funcs es' 11 j vars=F)∧Hid (es'.size≤ks.size∧es'.depth≤ks.depth)∧Hid (Cells wr w.heap.size 209 [.slice (some ⟨bF,oF,none⟩) P.length capP,.int .i64 funcs])∧Hid (Cells wr (w.heap.size+1) 33 [.int .i64 11,.int .i64 fi,.int .i64 p,.int .i64 c,.slice K ks.len cap])∧Hid (ExsAt wr B es' b' (o'+j*5))∧Hid (Below w.heap.size w wr)) (fun i _=>ks.len - (intOf i).toNat)
  case atStart=>
   obtain ⟨q1,q2,q3⟩:=two_boxes w 209 33 [.slice (some ⟨bF,oF,none⟩) P.length capP,.int .i64 funcs] [.int .i64 11,.int .i64 fi,.int .i64 p,.int .i64 c,.slice K ks.len cap]
   have q4:Below w.heap.size w (((w.alloc (.cells [Value.slice (some ⟨bF,oF,none⟩) P.length capP,.int .i64 funcs].toArray 209)).alloc (.cells [Value.int .i64 11,.int .i64 fi,.int .i64 p,.int .i64 c,.slice K ks.len cap].toArray 33)).alloc (.cells [Value.string f.name,.int .i64 f.params,.slice KF f.outs.len cF].toArray 146)):=by go_grown
   exact ⟨0,ks,by go_num,by omega,HF.out.symm,⟨Nat.le_refl _,Nat.le_refl _⟩,q1.next (by go_grown),q2.next (by go_grown),by show ExsAt _ _ _ _ _;rw [Nat.zero_mul,Nat.add_zero];exact HKS.out.below (q4.mono hB),q4⟩
  case round=>
   obtain ⟨j,es',rfl,hj,hy,hsz,HC1,HC2,HE,HB⟩:=hrel
   cases es' with
   | nil=>
    simp only [Es.len] at hj
    go_wp2
    go_ret
    have:=hy.out
    simp only [formedL] at this
    exact ⟨ret_bool this,HB.out⟩
   | cons kk n' p' c' ks' r=>
    simp only [Es.len] at hj
    have hK:=hK (by omega)
    subst hK
    obtain ⟨hel,hr⟩:=HE.out
    have HR:=hid hr
    obtain ⟨hbB,c0,c1,c2,c3,K',cap',b2,o2,c4,hc2,hcm2,hK2,hks2⟩:=hel
    have HK2:Hid (ExSl wr B ks' K'):=⟨b2,o2,hK2,hks2⟩
    have hrs:Hid ((r.size≤ks.size∧r.depth≤ks.depth)∧ks'.size<ks.size∧ks'.depth+1≤ks.depth):=by
     have:=hsz.out
     simp only [Es.size,Es.depth] at this
     exact ⟨⟨by omega,by omega⟩,by omega,by omega⟩
    have a0:wr.cell? ⟨w.heap.size,0,none⟩=some (.slice (some ⟨bF,oF,none⟩) P.length capP):=by rw [HC1.out.cell];rfl
    have a1:wr.cell? ⟨w.heap.size,1,none⟩=some (.int .i64 funcs):=by rw [HC1.out.cell];rfl
    have a2:wr.cell? ⟨w.heap.size+1,0,none⟩=some (.int .i64 11):=by rw [HC2.out.cell];rfl
    have a3:=HC1.out.lt
    have a4:=HC2.out.lt
    have hbr:b'<wr.heap.size:=by omega
    clear hr HE hks2
    have HKV:Hid (kidVars 11 vars j=vars):=kidVars_ne (by omega)
    go_wp2_with fail
    refine (IH.out ks' (by have:=hrs.out;omega) kk n' p' c' K' cap' B (some ⟨bF,oF,none⟩) capP vars funcs _ (HK2.out.below (by have:=HB.out.size;go_grown)) hc2 hcm2 (HFS.out.below ((HB.out.mono hB).trans (by have:=HB.out.size;go_grown))) hPl hPm (by have:=HB.out.size;simp;omega) f0 f1 (by omega) (by have:=hrs.out;omega) (by have:=hrs.out;omega)).mono ?_;rintro e w2 ⟨rfl,hb2⟩
    have hb3:Below wr.heap.size wr w2:=Below.trans (by go_grown) (hb2.mono (by simp))
    have HE1:Hid (ExsAt w2 B r b' (o'+(j+1)*5)):=by
     have:=HR.out.below (hb3.mono (by have:=HB.out.size;omega))
     rwa [show o'+j*5+5=o'+(j+1)*5 by omega] at this
    have HB2:=hid (bnext HB.out hb3)
    have HC1':=hid (HC1.out.next hb3)
    have HC2':=hid (HC2.out.next hb3)
    have hy2:=hy.out
    simp only [formedL] at hy2
    rw [HKV.out] at hy2
    generalize (nodeOk P funcs vars kk n' p' c' ks'.len&&formedL P funcs ks' kk 0 vars)=bb at hy2 ⊢
    have HY2:=hid hy2
    clear hb2 hb3 HR hy2 HC1 HC2 HK2 HB a0 a1 a2 a3 a4 c0 c1 c2 c3 c4
    cases bb
    ·have HN2:Hid (F=false):=by have:=HY2.out;rw [Bool.false_and] at this;exact this.symm
     go_wp2
     go_ret
     exact ⟨ret_bool HN2.out.symm,HB2.out⟩
    ·have HN2:Hid (formedL P funcs r 11 (j+1) vars=F):=by have:=HY2.out;rw [Bool.true_and] at this;exact this
     go_wp2
     go_roundw
     case rel=>exact ⟨j+1,r,by go_num,by omega,HN2,hrs.out.1,HC1',HC2',HE1,HB2⟩
     case measure=>simp [intOf];omega
end
section
open Go.RowKit Plain
theorem formed_any (P:List Fn):∀ (m:Nat) (ks:Es),ks.size<m→FormC P ks:=by
 intro m
 induction m with
 | zero=>intro es h;omega
 | succ m ih=>
 intro ks hm k n p c K cap B A capP vars funcs w hKs hc hcm hFS hPl hPm hB f0 f1 v0 v1 hsz0
 have hls:=Es.len_le_size ks
 have no:nodeOk P funcs vars k n p c ks.len=false→Calls Tryz.prog 154 #[chV A P.length capP funcs,exV k n p c K ks.len cap,.int .i64 vars] w (FPost false w) →
   Calls Tryz.prog 154 #[chV A P.length capP funcs,exV k n p c K ks.len cap,.int .i64 vars] w (FPost (nodeOk P funcs vars k n p c ks.len&&formedL P funcs ks k 0 vars) w):=fun h hh=>by rw [h,Bool.false_and];exact hh
 have yes:nodeOk P funcs vars k n p c ks.len=true→Calls Tryz.prog 154 #[chV A P.length capP funcs,exV k n p c K ks.len cap,.int .i64 vars] w (FPost (formedL P funcs ks k 0 vars) w) →
   Calls Tryz.prog 154 #[chV A P.length capP funcs,exV k n p c K ks.len cap,.int .i64 vars] w (FPost (nodeOk P funcs vars k n p c ks.len&&formedL P funcs ks k 0 vars) w):=fun h hh=>by rw [h,Bool.true_and];exact hh
 by_cases h12:k=1∨k=2
 ·have h:=formed_leaf P ks k n p c K cap A capP vars funcs w hc hcm v0 (by omega) (by omega) h12
  rcases (show nodeOk P funcs vars k n p c ks.len=false∨nodeOk P funcs vars k n p c ks.len=true by cases nodeOk P funcs vars k n p c ks.len<;>simp) with hok | hok
  ·rw [hok] at h;exact no hok h
  ·have hl:ks.len=0:=by
    rcases h12 with rfl | rfl
    ·rw [nodeOk_leaf1] at hok;simp only [Bool.and_eq_true,beq_iff_eq] at hok;exact hok.2.1
    ·rw [nodeOk_leaf2] at hok;simp only [Bool.and_eq_true,beq_iff_eq] at hok;exact hok.2.1
   have hn:=Es.len0 hl
   subst hn
   rw [hok] at h
   exact yes hok h
 by_cases hr:k<1∨11<k
 ·have h:=formed_none P ks k n p c K cap A capP vars funcs w hc hcm (by omega) hr
  rw [nodeOk_none hr] at h
  exact no (nodeOk_none hr) h
 by_cases hcall:k=10∨k=11
 ·rcases (show nodeOk P funcs vars k n p c ks.len=false∨nodeOk P funcs vars k n p c ks.len=true by cases nodeOk P funcs vars k n p c ks.len<;>simp) with hok | hok
  ·exact no hok (formed_call P ks k n p c K cap B A capP vars funcs w hc hcm hFS hPl hPm hB f0 f1 (by omega) hcall hok)
  ·have hn:inR n 0 (funcs - 1)=true:=by
    cases h:inR n 0 (funcs - 1)
    ·rw [nodeOk_no hcall h] at hok;cases hok
    ·rfl
   obtain ⟨i,rfl⟩:=Int.eq_ofNat_of_zero_le (inR_true.1 hn).1
   refine yes hok ?_
   rcases hcall with rfl | rfl
   ·have hc0:c=0:=by
     obtain ⟨f,hf⟩:∃ f,P[i]? = some f:=⟨P[i]'(by have:=inR_true.1 hn;omega),List.getElem?_eq_getElem _⟩
     rw [nodeOk_call (.inl rfl) (show P[(i:Int).toNat]? = some f from hf) hn,Bool.and_eq_true] at hok
     simpa using hok.2
    subst hc0
    exact formed_go10 P m ks ih hm i p 0 K cap B A capP vars funcs w hKs hc hcm hFS hPl hPm hB f0 f1 v0 v1 hsz0 hok
   ·exact formed_go11 P m ks ih hm i p c K cap B A capP vars funcs w hKs hc hcm hFS hPl hPm hB f0 f1 v0 v1 hsz0 hok
 obtain ⟨N,hN⟩:∃ N,opN k N:=by
  have:(k=3∨k=4∨k=5∨k=6∨k=9)∨k=7∨k=8:=by omega
  rcases this with h | h | h
  ·exact ⟨2,.inl ⟨h,rfl⟩⟩
  ·exact ⟨1,.inr (.inl ⟨h,rfl⟩)⟩
  ·exact ⟨3,.inr (.inr ⟨h,rfl⟩)⟩
 by_cases hg:p=0∧c=0∧n=0∧ks.len=N
 ·obtain ⟨rfl,rfl,rfl,hl⟩:=hg
  have hok:nodeOk P funcs vars k 0 0 0 ks.len=true:=by rw [nodeOk_op hN,hl];simp
  refine yes hok ?_
  rcases hN with ⟨rfl | rfl | rfl | rfl | rfl,rfl⟩ | ⟨rfl,rfl⟩ | ⟨rfl,rfl⟩
  ·exact formed_go3 P m ks ih hm K cap B A capP vars funcs w hKs hc hcm hFS hPl hPm hB f0 f1 v0 v1 hsz0 hl
  ·exact formed_go4 P m ks ih hm K cap B A capP vars funcs w hKs hc hcm hFS hPl hPm hB f0 f1 v0 v1 hsz0 hl
  ·exact formed_go5 P m ks ih hm K cap B A capP vars funcs w hKs hc hcm hFS hPl hPm hB f0 f1 v0 v1 hsz0 hl
  ·exact formed_go6 P m ks ih hm K cap B A capP vars funcs w hKs hc hcm hFS hPl hPm hB f0 f1 v0 v1 hsz0 hl
  ·exact formed_go9 P m ks ih hm K cap B A capP vars funcs w hKs hc hcm hFS hPl hPm hB f0 f1 v0 v1 hsz0 hl
  ·exact formed_go7 P m ks ih hm K cap B A capP vars funcs w hKs hc hcm hFS hPl hPm hB f0 f1 v0 v1 hsz0 hl
  ·exact formed_go8 P m ks ih hm K cap B A capP vars funcs w hKs hc hcm hFS hPl hPm hB f0 f1 v0 v1 hsz0 hl
 ·have h:=formed_op P ks k n p c K cap A capP vars funcs w hc hcm (by omega) N hN hg
  rcases (show nodeOk P funcs vars k n p c ks.len=false∨nodeOk P funcs vars k n p c ks.len=true by cases nodeOk P funcs vars k n p c ks.len<;>simp) with hok | hok
  ·rw [hok] at h;exact no hok h
  ·exfalso
   rw [nodeOk_op hN] at hok
   simp only [Bool.and_eq_true,beq_iff_eq] at hok
   exact hg ⟨hok.1.1,hok.1.2,hok.2.1,hok.2.2⟩
end
section
open Go.RowKit Plain
theorem areVars_any (x:Int) (w:World):Calls Tryz.prog 152 #[.int .i64 x] w fun e w'=>e=.returned (.bool (inR x 0 412))∧w=w':=by
 go_enter Tryz.func152,Tryz.ntmps152
 go_wp2_with fail
 refine (within_any _ _ _ _).mono ?_;rintro e w' ⟨rfl,rfl⟩
 go_wp2
 go_ret
 exact ⟨rfl,rfl⟩
theorem exBoxes {w w1:World} {t1 t2:TypeId} {C1 C2:List Value} (hb:Below ((w.alloc (.cells C1.toArray t1)).alloc (.cells C2.toArray t2)).heap.size ((w.alloc (.cells C1.toArray t1)).alloc (.cells C2.toArray t2)) w1) :
  Cells w1 w.heap.size t1 C1∧Cells w1 (w.heap.size+1) t2 C2∧Below w.heap.size w w1:=by
 obtain ⟨q1,q2,q3⟩:=two_boxes w t1 t2 C1 C2
 exact ⟨q1.next hb,q2.next hb,bnext q3 hb⟩
theorem validExpr_any (P:List Fn) (ks:Es) (k n p c:Int) (K:Option Addr) (cap B:Nat) (A:Option Addr) (capP:Nat) (vars funcs:Int) (w:World) (hKs:ExSl w B ks K) (hc:ks.len≤cap) (hcm:cap≤maxLen) (hFS:FnSl w B P A) (hPl:P.length≤capP) (hPm:capP≤maxLen) (hB:B≤w.heap.size) (hsz:ks.size≤1048576) :
  Calls Tryz.prog 73 #[prV A P.length capP,exV k n p c K ks.len cap,.int .i64 vars,.int .i64 funcs] w (FPost (exprOk P ⟨k,n,p,c,ks⟩ vars funcs) w):=by
 have HK:=hid hKs;clear hKs
 have HFS:=hid hFS;clear hFS
 have hcm':cap≤9223372036854775807:=by unfold maxLen at hcm;omega
 have hPm':capP≤9223372036854775807:=by unfold maxLen at hPm;omega
 have hg:Hid (Below w.heap.size w ((w.alloc (.cells [Value.slice A P.length capP].toArray 51)).alloc (.cells [Value.int .i64 k,.int .i64 n,.int .i64 p,.int .i64 c,.slice K ks.len cap].toArray 33))):=(two_boxes w _ _ _ _).2.2
 cases hv:inR vars 0 412
 ·have HN:=hid (exprOk_vars (P:=P) (x:=⟨k,n,p,c,ks⟩) (funcs:=funcs) hv)
  have HV:=hid hv;clear hv
  go_enter Tryz.func73,Tryz.ntmps73
  go_wp2_with fail
  refine (areVars_any _ _).mono ?_;rintro e w' ⟨rfl,rfl⟩
  rw [HV.out]
  go_wp2
  go_ret
  exact ⟨ret_bool HN.out.symm,hg.out⟩
 have HV:=hid hv;clear hv
 cases hf:inR funcs 0 P.length
 ·have HN:=hid (exprOk_funcs (P:=P) (x:=⟨k,n,p,c,ks⟩) (vars:=vars) hf)
  have HF:=hid hf;clear hf
  go_enter Tryz.func73,Tryz.ntmps73
  go_wp2_with fail
  refine (areVars_any _ _).mono ?_;rintro e w' ⟨rfl,rfl⟩
  rw [HV.out]
  go_wp2_with fail
  refine (within_any _ _ _ _).mono ?_;rintro e w' ⟨rfl,rfl⟩
  rw [HF.out]
  go_wp2
  go_ret
  exact ⟨ret_bool HN.out.symm,hg.out⟩
 have HF:=hid hf;clear hf
 by_cases hs:ks.size≤399
 ·by_cases hd:ks.depth≤59
  ·obtain ⟨v0,v1⟩:=inR_true.1 HV.out
   obtain ⟨f0,f1⟩:=inR_true.1 HF.out
   have HN:Hid (exprOk P ⟨k,n,p,c,ks⟩ vars funcs=(nodeOk P funcs vars k n p c ks.len&&formedL P funcs ks k 0 vars)):=exprOk_formed HV.out HF.out hs hd
   rw [HN.out]
   generalize hbb:(nodeOk P funcs vars k n p c ks.len&&formedL P funcs ks k 0 vars)=bb
   have HBB:=hid hbb;clear hbb HN
   go_enter Tryz.func73,Tryz.ntmps73
   go_wp2_with fail
   refine (areVars_any _ _).mono ?_;rintro e w' ⟨rfl,rfl⟩
   rw [HV.out]
   go_wp2_with fail
   refine (within_any _ _ _ _).mono ?_;rintro e w' ⟨rfl,rfl⟩
   rw [HF.out]
   go_wp2_with fail
   refine (size_any (ks.size+1) ks (by omega) k n p c K cap B _ (HK.out.below (hg.out.mono hB)) hc hcm (by simp;omega) hsz).mono ?_;rintro e w1 ⟨rfl,hb1⟩
   have hq:((ks.size+1:Nat):Int)≤400:=by omega
   generalize ((ks.size+1:Nat):Int)=q at *
   obtain ⟨q1,q2,q3⟩:=exBoxes (C1:=[Value.slice A P.length capP]) (C2:=[Value.int .i64 k,.int .i64 n,.int .i64 p,.int .i64 c,.slice K ks.len cap]) hb1
   have a0:w1.cell? ⟨w.heap.size,0,none⟩=some (.slice A P.length capP):=by rw [q1.cell];rfl
   have b0:w1.cell? ⟨w.heap.size+1,0,none⟩=some (.int .i64 k):=by rw [q2.cell];rfl
   have b1:w1.cell? ⟨w.heap.size+1,1,none⟩=some (.int .i64 n):=by rw [q2.cell];rfl
   have b2:w1.cell? ⟨w.heap.size+1,2,none⟩=some (.int .i64 p):=by rw [q2.cell];rfl
   have b3:w1.cell? ⟨w.heap.size+1,3,none⟩=some (.int .i64 c):=by rw [q2.cell];rfl
   have b4:w1.cell? ⟨w.heap.size+1,4,none⟩=some (.slice K ks.len cap):=by rw [q2.cell];rfl
   have Q1:=hid q1
   have Q2:=hid q2
   have Q3:=hid q3
   clear q1 q2 q3 hb1
   go_wp2_with fail
   refine (dep_any (ks.size+1) ks (by omega) k n p c K cap B w1 (HK.out.below (Q3.out.mono hB)) hc hcm (by have:=Q3.out.size;omega) hsz).mono ?_;rintro e w2 ⟨rfl,hb2⟩
   have hq2:((ks.depth+1:Nat):Int)≤60:=by omega
   generalize ((ks.depth+1:Nat):Int)=qq at *
   have R3:=hid (bnext Q3.out hb2)
   have r1:=Q1.out.next hb2
   have r2:=Q2.out.next hb2
   have c0':w2.cell? ⟨w.heap.size,0,none⟩=some (.slice A P.length capP):=by rw [r1.cell];rfl
   have d0:w2.cell? ⟨w.heap.size+1,0,none⟩=some (.int .i64 k):=by rw [r2.cell];rfl
   have d1:w2.cell? ⟨w.heap.size+1,1,none⟩=some (.int .i64 n):=by rw [r2.cell];rfl
   have d2:w2.cell? ⟨w.heap.size+1,2,none⟩=some (.int .i64 p):=by rw [r2.cell];rfl
   have d3:w2.cell? ⟨w.heap.size+1,3,none⟩=some (.int .i64 c):=by rw [r2.cell];rfl
   have d4:w2.cell? ⟨w.heap.size+1,4,none⟩=some (.slice K ks.len cap):=by rw [r2.cell];rfl
   clear r1 r2 hb2 a0 b0 b1 b2 b3 b4
   go_wp2_with fail
   refine (formed_any P (ks.size+1) ks (by omega) k n p c K cap B A capP vars funcs w2 (HK.out.below (R3.out.mono hB)) hc hcm (HFS.out.below (R3.out.mono hB)) hPl hPm (by have:=R3.out.size;omega) f0 f1 v0 (by omega) hsz).mono ?_;rintro e w3 ⟨rfl,hb3⟩
   rw [HBB.out]
   have HB3:=hid (bnext R3.out hb3)
   clear hb3
   go_wp2
   go_ret
   exact ⟨rfl,HB3.out⟩
  ·have HN:=hid (exprOk_depth (P:=P) (x:=⟨k,n,p,c,ks⟩) (vars:=vars) (funcs:=funcs) hd)
   go_enter Tryz.func73,Tryz.ntmps73
   go_wp2_with fail
   refine (areVars_any _ _).mono ?_;rintro e w' ⟨rfl,rfl⟩
   rw [HV.out]
   go_wp2_with fail
   refine (within_any _ _ _ _).mono ?_;rintro e w' ⟨rfl,rfl⟩
   rw [HF.out]
   go_wp2_with fail
   refine (size_any (ks.size+1) ks (by omega) k n p c K cap B _ (HK.out.below (hg.out.mono hB)) hc hcm (by simp;omega) hsz).mono ?_;rintro e w1 ⟨rfl,hb1⟩
   have hq:((ks.size+1:Nat):Int)≤400:=by omega
   generalize ((ks.size+1:Nat):Int)=q at *
   obtain ⟨q1,q2,q3⟩:=exBoxes (C1:=[Value.slice A P.length capP]) (C2:=[Value.int .i64 k,.int .i64 n,.int .i64 p,.int .i64 c,.slice K ks.len cap]) hb1
   have b0:w1.cell? ⟨w.heap.size+1,0,none⟩=some (.int .i64 k):=by rw [q2.cell];rfl
   have b1:w1.cell? ⟨w.heap.size+1,1,none⟩=some (.int .i64 n):=by rw [q2.cell];rfl
   have b2:w1.cell? ⟨w.heap.size+1,2,none⟩=some (.int .i64 p):=by rw [q2.cell];rfl
   have b3:w1.cell? ⟨w.heap.size+1,3,none⟩=some (.int .i64 c):=by rw [q2.cell];rfl
   have b4:w1.cell? ⟨w.heap.size+1,4,none⟩=some (.slice K ks.len cap):=by rw [q2.cell];rfl
   have Q3:=hid q3
   clear q1 q2 q3 hb1
   go_wp2_with fail
   refine (dep_any (ks.size+1) ks (by omega) k n p c K cap B w1 (HK.out.below (Q3.out.mono hB)) hc hcm (by have:=Q3.out.size;omega) hsz).mono ?_;rintro e w2 ⟨rfl,hb2⟩
   have hq2:60<((ks.depth+1:Nat):Int):=by omega
   generalize ((ks.depth+1:Nat):Int)=qq at *
   have R3:=hid (bnext Q3.out hb2)
   clear hb2
   go_wp2
   go_ret
   exact ⟨ret_bool HN.out.symm,R3.out⟩
 ·have HN:=hid (exprOk_size (P:=P) (x:=⟨k,n,p,c,ks⟩) (vars:=vars) (funcs:=funcs) hs)
  go_enter Tryz.func73,Tryz.ntmps73
  go_wp2_with fail
  refine (areVars_any _ _).mono ?_;rintro e w' ⟨rfl,rfl⟩
  rw [HV.out]
  go_wp2_with fail
  refine (within_any _ _ _ _).mono ?_;rintro e w' ⟨rfl,rfl⟩
  rw [HF.out]
  go_wp2_with fail
  refine (size_any (ks.size+1) ks (by omega) k n p c K cap B _ (HK.out.below (hg.out.mono hB)) hc hcm (by simp;omega) hsz).mono ?_;rintro e w1 ⟨rfl,hb1⟩
  have hq:400<((ks.size+1:Nat):Int):=by omega
  generalize ((ks.size+1:Nat):Int)=q at *
  obtain ⟨_,_,q3⟩:=exBoxes (C1:=[Value.slice A P.length capP]) (C2:=[Value.int .i64 k,.int .i64 n,.int .i64 p,.int .i64 c,.slice K ks.len cap]) hb1
  have Q3:=hid q3
  clear q3 hb1
  go_wp2
  go_ret
  exact ⟨ret_bool HN.out.symm,Q3.out⟩
end
section
open Go.RowKit Plain
end
section
open Go.RowKit Plain
end
end Go.Proofs.YtgfkglhelfkpoaaGreat
