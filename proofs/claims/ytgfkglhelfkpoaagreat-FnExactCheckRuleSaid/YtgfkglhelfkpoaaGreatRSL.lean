/- Texts put together: PISort, PRule, WISort, WIns, WSinkL, WRuleS1. -/
import Derived.Test.YtgfkglhelfkpoaaGreatRA
import Derived.Test.YtgfkglhelfkpoaaGreatRSF
import Derived.Test.YtgfkglhelfkpoaaGreatRSH
import Derived.Test.YtgfkglhelfkpoaaGreatRG
set_option maxRecDepth 100000
set_option maxHeartbeats 4000000
open Go.Lib (hid)
namespace Go.Proofs.YtgfkglhelfkpoaaGreat
section
open Plain
def SrtTo (i:Nat) (l:List Int):Prop:=∀ p q,p<q→q<i→cf l p≤cf l q
def SrtJ (i j:Nat) (l:List Int):Prop:=(∀ p q,p<q→q≤i→p≠j→q≠j→cf l p≤cf l q)∧∀ q,j<q→q≤i→cf l j≤cf l q
def swL (l:List Int) (j:Nat):List Int:=(l.set j (cf l (j - 1))).set (j - 1) (cf l j)
theorem cf_set' (l:List Int) (j k:Nat) (x:Int) (hj:j<l.length):cf (l.set j x) k=if k=j then x else cf l k:=by
 unfold cf
 simp only [List.getD]
 by_cases h:k=j
 ·subst h;simp [hj]
 ·rw [if_neg h,List.getElem?_set_ne (Ne.symm h)]
theorem cf_swL {l:List Int} {j k:Nat} (h0:0<j) (h:j<l.length):cf (swL l j) k=if k=j then cf l (j - 1) else if k=j - 1 then cf l j else cf l k:=by
 unfold swL
 rw [cf_set' _ _ _ _ (by rw [List.length_set];omega),cf_set' _ _ _ _ h]
 by_cases h1:k=j - 1
 ·rw [if_pos h1,if_neg (by omega),if_pos h1]
 ·rw [if_neg h1]
  by_cases h2:k=j
  ·rw [if_pos h2,if_pos h2]
  ·rw [if_neg h2,if_neg h2,if_neg h1]
theorem swL_perm {l:List Int} {j:Nat} (_h0:0<j) (h:j<l.length):(swL l j).Perm l:=by
 have h1:j - 1<l.length:=by omega
 have:=List.set_set_perm («as»:=l) h h1
 unfold swL
 have e1:cf l (j - 1)=l[j - 1]:=by simp [cf,List.getD,h1]
 have e2:cf l j=l[j]:=by simp [cf,List.getD,h]
 rw [e1,e2]
 exact this
theorem SrtJ.start {i:Nat} {l:List Int} (h:SrtTo i l):SrtJ i i l:=⟨fun p q hpq hq _ hqj=>h p q hpq (by omega),fun q h1 h2=>by omega⟩
theorem SrtJ.stop {i j:Nat} {l:List Int} (h:SrtJ i j l) (hj:j≤i) (hs:j=0∨¬ cf l j<cf l (j - 1)):SrtTo (i+1) l:=fun p q hpq hq=>by
 by_cases hp:p=j
 ·subst hp;exact h.2 q hpq (by omega)
 ·by_cases hqj:q=j
  ·subst hqj
   rcases hs with hs | hs
   ·omega
   ·by_cases h1:p=q - 1
    ·subst h1;omega
    ·have:=h.1 p (q - 1) (by omega) (by omega) hp (by omega);omega
  ·exact h.1 p q hpq (by omega) hp hqj
theorem SrtJ.step {i j:Nat} {l:List Int} (h:SrtJ i j l) (h0:0<j) (hj:j≤i) (hl:i<l.length) (hlt:cf l j<cf l (j - 1)):SrtJ i (j - 1) (swL l j):=by
 have hc:∀ k,cf (swL l j) k=if k=j then cf l (j - 1) else if k=j - 1 then cf l j else cf l k:=fun k=>cf_swL h0 (by omega)
 refine ⟨fun p q hpq hq hp hqj=>?_,fun q h1 h2=>?_⟩
 ·rw [hc p,hc q,if_neg hp,if_neg hqj]
  by_cases e1:p=j
  ·subst e1
   rw [if_pos rfl,if_neg (by omega)]
   exact h.1 (p - 1) q (by omega) hq (by omega) (by omega)
  ·rw [if_neg e1]
   by_cases e2:q=j
   ·subst e2
    rw [if_pos rfl]
    exact h.1 p (q - 1) (by omega) (by omega) (by omega) (by omega)
   ·rw [if_neg e2]
    exact h.1 p q hpq hq e1 e2
 ·rw [hc (j - 1),hc q,if_neg (by omega),if_pos rfl]
  by_cases e2:q=j
  ·subst e2;rw [if_pos rfl];omega
  ·rw [if_neg e2,if_neg (by omega)]
   exact h.2 q (by omega) h2
end
section
open Plain
def insS (n:Int):List Int→List Int
 | []=>[n]
 | x :: xs=>if x<n then x :: insS n xs else if x=n then x :: xs else n :: x :: xs
theorem insS_mem {n y:Int} {l:List Int}:y∈insS n l ↔ y=n∨y∈l:=by
 induction l with
 | nil=>simp [insS]
 | cons x xs ih=>
  unfold insS
  split
  ·simp only [List.mem_cons,ih]
   constructor
   ·rintro (h | h | h)<;>simp [h]
   ·rintro (h | h | h)<;>simp [h]
  ·split
   ·rename_i h1 h2
    subst h2
    simp only [List.mem_cons]
    constructor
    ·exact .inr
    ·rintro (h | h)<;>simp [h]
   ·simp [List.mem_cons]
theorem insS_sorted {n:Int} {l:List Int} (h:l.Pairwise (·<·)):(insS n l).Pairwise (·<·):=by
 induction l with
 | nil=>simp [insS]
 | cons x xs ih=>
  obtain ⟨h1,h2⟩:=List.pairwise_cons.1 h
  unfold insS
  split
  ·refine List.pairwise_cons.2 ⟨fun y hy=>?_,ih h2⟩
   rcases insS_mem.1 hy with rfl | hy
   ·assumption
   ·exact h1 y hy
  ·split
   ·exact h
   ·refine List.pairwise_cons.2 ⟨fun y hy=>?_,h⟩
    rcases List.mem_cons.1 hy with rfl | hy
    ·omega
    ·have:=h1 y hy;omega
def plainK (k:Int):Bool:=inR k 1 5 || k==7
def plainL:Es→Bool
 | .nil=>true
 | .cons k _ _ _ ks r=>(plainK k&&plainL ks)&&plainL r
def Nd.plain (x:Nd):Bool:=plainK x.k&&plainL x.ks
theorem plainK_iff {k:Int}:plainK k=true ↔ (k=1∨k=2∨k=3∨k=4∨k=5∨k=7):=by
 unfold plainK
 simp only [Bool.or_eq_true,beq_iff_eq]
 rw [inR_true]
 omega
def sideOk (x:Nd) (vars:Int):Bool:=exprOk [] x vars 0&&decide (x.size≤40)&&x.plain
def occL:Es→List Int→List Int
 | .nil,acc=>acc
 | .cons k n _ _ ks r,acc=>occL r (occL ks (if k=2 then insS n acc else acc))
def occN (k n:Int) (ks:Es) (acc:List Int):List Int:=occL ks (if k=2 then insS n acc else acc)
def Nd.occ (x:Nd):List Int:=occN x.k x.n x.ks []
theorem occL_sorted (es:Es):∀ {acc:List Int},acc.Pairwise (·<·)→(occL es acc).Pairwise (·<·):=by
 induction es with
 | nil=>intro acc h;exact h
 | cons k n p c ks r ih1 ih2=>
  intro acc h
  refine ih2 (ih1 ?_)
  split
  ·exact insS_sorted h
  ·exact h
theorem occ_sorted (x:Nd):x.occ.Pairwise (·<·):=by
 unfold Nd.occ occN
 refine occL_sorted _ ?_
 split
 ·exact insS_sorted List.Pairwise.nil
 ·exact List.Pairwise.nil
theorem occL_bd {vars:Int} (es:Es):∀ {k':Int} {i:Nat} {acc:List Int},formedL [] 0 es k' i vars=true→plainL es=true→plainK k'=true→(∀ y∈acc,0≤y∧y<vars)→∀ y∈occL es acc,0≤y∧y<vars:=by
 induction es with
 | nil=>intro k' i acc _ _ _ h;exact h
 | cons k n p c ks r ih1 ih2=>
  intro k' i acc hf hp hk h
  simp only [formedL,Bool.and_eq_true] at hf
  simp only [plainL,Bool.and_eq_true] at hp
  have hkv:kidVars k' vars i=vars:=by
   unfold kidVars
   have:=plainK_iff.1 hk
   rw [if_neg (by omega)]
  rw [hkv] at hf
  refine ih2 hf.2 hp.2 hk (ih1 hf.1.2 hp.1.2 hp.1.1 ?_)
  split
  ·rename_i h2
   intro y hy
   rcases insS_mem.1 hy with rfl | hy
   ·have hn:=hf.1.1
    unfold nodeOk at hn
    subst h2
    simp at hn
    have:=inR_true.1 hn.2.2
    omega
   ·exact h y hy
  ·exact h
theorem insS_le {n:Int} {l:List Int}:(insS n l).length≤l.length+1:=by
 induction l with
 | nil=>simp [insS]
 | cons x xs ih=>
  unfold insS
  split
  ·simp only [List.length_cons];omega
  ·split
   ·simp
   ·simp
theorem occL_len (es:Es):∀ (acc:List Int),(occL es acc).length≤acc.length+es.size:=by
 induction es with
 | nil=>intro acc;simp [occL,Es.size]
 | cons k n p c ks r ih1 ih2=>
  intro acc
  show (occL r (occL ks (if k=2 then insS n acc else acc))).length≤_
  have h1:=ih2 (occL ks (if k=2 then insS n acc else acc))
  have h2:=ih1 (if k=2 then insS n acc else acc)
  have h3:(if k=2 then insS n acc else acc).length≤acc.length+1:=by
   split
   ·exact insS_le
   ·omega
  simp only [Es.size]
  omega
def ruleOk (v:Int) (l r:Nd):Bool:=inR v 0 3&&sideOk l v&&sideOk r v&&!(l.k==2)&&r.occ.all (fun y=>l.occ.contains y)
end
section
open Go.RowKit Plain
theorem lessI_any (x y:Int) (w:World):Calls Tryz.prog 292 #[.int .i64 x,.int .i64 y] w fun e w'=>e=.returned (.bool (decide (x<y)))∧w'=w:=by
 go_enter Tryz.func292,Tryz.ntmps292
 go_wp2
 go_ret
 exact ⟨by simp,rfl⟩
theorem isort_any (B:Nat) (A:Option Addr) (cap n:Nat) (l:List Int) (w:World) (h:IntRow w B (.slice A n cap) l) (hl:l.length=n) (hn:n≤12) :
  Calls Tryz.prog 286 #[.slice A n cap,.int .i64 0,.int .i64 n] w fun e w'=>e=.returned (.tuple #[])∧∃ l',l'.Perm l∧SrtTo n l'∧IntRow w' B (.slice A n cap) l'∧Below B w w':=by
 have HR0:=hid h
 have HL0:=hid hl
 clear h hl
 go_enter Tryz.func286,Tryz.ntmps286
 go_wp2_with fail
 go_loopg [6] (n+2) (fun kx s6 wr=>∃ (i:Nat) (l1:List Int),s6=.int .i64 (i:Int)∧1≤i∧i≤n+1∧n+1 - i<kx∧(i≤n∨n=0)∧Hid (l1.Perm l)∧Hid (SrtTo i l1)∧Hid (IntRow wr B (.slice A n cap) l1)∧Hid (Below B w wr))
 case atStart=>exact ⟨1,l,rfl,by omega,by omega,by omega,by omega,List.Perm.refl _,(fun p q h1 h2=>by omega),HR0,Below.refl _ _⟩
 case round=>
  obtain ⟨i,l1,rfl,hi1,hin,hkx,hi0,HP,HS,HR,HB⟩:=hrel
  obtain ⟨wo,rfl⟩:∃ x,x=wr:=⟨_,rfl⟩
  by_cases hlt:i<n
  ·have hiz:(i:Int)<(n:Int):=by omega
   have HJ:Hid (SrtJ i i l1):=SrtJ.start HS.out
   clear HS
   go_wp2_with fail
   go_loopg [7] (i+1) (fun ky s7 wr=>∃ (j:Nat) (l2:List Int),s7=.int .i64 (j:Int)∧j≤i∧j<ky∧Hid (l2.Perm l)∧Hid (SrtJ i j l2)∧Hid (IntRow wr B (.slice A n cap) l2)∧Hid (Below B w wr))
   case atStart=>exact ⟨i,l1,rfl,by omega,by omega,HP,HJ,HR,HB⟩
   case round=>
    clear HP HJ HR HB
    obtain ⟨j,l2,rfl,hji,hky,HP,HJ,HR,HB⟩:=hrel
    have hl2:l2.length=n:=by rw [HP.out.length_eq];exact HL0.out
    by_cases hj0:j=0
    ·subst hj0
     have HS2:=hid (SrtJ.stop HJ.out (by omega) (.inl rfl))
     have hgt:decide ((0:Int)<((0:Nat):Int))=false:=by decide
     have hgt2:¬ (0:Int)<((0:Nat):Int):=by decide
     clear HJ
     go_wp2_with fail
     go_quiet (fail)
     rename Nat=>nq
     have HR2:Hid (IntRow (wr.drewN nq) B (.slice A n cap) l2):=HR.out
     have HB2:Hid (Below B w (wr.drewN nq)):=below_drewN' HB.out nq
     clear HR HB
     go_wp2
     go_roundg (n+1 - (i+1)+1)
     case measure=>omega
     case rel=>exact ⟨i+1,l2,by first | rfl | go_num,by omega,by omega,by omega,by omega,HP,HS2,HR2,HB2⟩
    ·obtain ⟨m,rfl⟩:∃ m,j=m+1:=⟨j - 1,by omega⟩
     have hRl:IntRow wr B (.slice A l2.length cap) l2:=by rw [hl2];exact HR.out
     obtain ⟨g,rfl,hg1,hg2,hg3,hg4⟩:=hRl.at_ (n:=n) (v:=m+1) hl2.symm (by omega)
     obtain ⟨g',e',_,_,hg5,hg6⟩:=hRl.at_ (n:=n) (v:=m) hl2.symm (by omega)
     injection e' with e';injection e' with e';subst e'
     have hmz:(0:Int)<((m+1:Nat):Int):=by omega
     have hmd:decide ((0:Int)<((m+1:Nat):Int))=true:=decide_eq_true hmz
     have hws:IntKind.i64.wrap (((m+1:Nat):Int) - 1)=(m:Int):=by rw [IntKind.wrap_i64];omega
     have hm0:(0:Int)≤((m:Nat):Int):=by omega
     have hmn:((m:Nat):Int)<(n:Int):=by omega
     have hm1n:((m+1:Nat):Int)<(n:Int):=by omega
     have hm10:(0:Int)≤((m+1:Nat):Int):=by omega
     have HCX:Hid (swL l2 (m+1)=(l2.set (m+1) (cf l2 m)).set m (cf l2 (m+1))):=rfl
     have HRS:Hid (IntRow ((wr.setCell ⟨g,m+1,none⟩ (.int .i64 (cf l2 m))).setCell ⟨g,m,none⟩ (.int .i64 (cf l2 (m+1)))) B (.slice (some ⟨g,0,none⟩) n cap) (swL l2 (m+1))):=by
      have h:=(hRl.setAt (m+1) (cf l2 m)).setAt m (cf l2 (m+1))
      rw [List.length_set,List.length_set,hl2] at h
      exact h
     have HJS:Hid (cf l2 (m+1)<cf l2 m→SrtJ i m (swL l2 (m+1))):=fun h=>HJ.out.step (by omega) hji (by omega) h
     have HJE:Hid (¬ cf l2 (m+1)<cf l2 m→SrtTo (i+1) l2):=fun h=>HJ.out.stop hji (.inr h)
     have HPS:Hid ((swL l2 (m+1)).Perm l):=(swL_perm (by omega) (by omega)).trans HP.out
     obtain ⟨x,hx⟩:∃ x,x=cf l2 (m+1):=⟨_,rfl⟩
     obtain ⟨y,hy⟩:∃ y,y=cf l2 m:=⟨_,rfl⟩
     rw [←hx] at hg3 HRS HJS HJE
     rw [←hy] at hg5 HRS HJS HJE
     have HLS:=hid (fun wx=>lessI_any x y wx)
     clear hx hy HJ hRl HCX
     by_cases hxy:x<y
     ·have hd:decide (x<y)=true:=decide_eq_true hxy
      have HJ2:=hid (HJS.out hxy)
      rw [hd] at HLS
      clear HJS HJE
      go_wp2_with fail
      go_quiet (first | (go_at_call 292;exact Calls.quiet_of_same (HLS.out _)))
      rename Nat=>nq
      have HRS2:Hid (IntRow (((wr.drewN nq).setCell ⟨g,m+1,none⟩ (.int .i64 y)).setCell ⟨g,m,none⟩ (.int .i64 x)) B (.slice (some ⟨g,0,none⟩) n cap) (swL l2 (m+1))):=HRS.out
      have HBS2:Hid (Below B w (((wr.drewN nq).setCell ⟨g,m+1,none⟩ (.int .i64 y)).setCell ⟨g,m,none⟩ (.int .i64 x))):=((below_drewN' HB.out nq).setCell (p:=⟨g,m+1,none⟩) hg1 _).setCell (p:=⟨g,m,none⟩) hg1 _
      have k3:(wr.drewN nq).cell? ⟨g,m+1,none⟩=some (.int .i64 x):=hg3
      have k4:(wr.drewN nq).frozen? ⟨g,m+1,none⟩=false:=hg4
      have k5:(wr.drewN nq).cell? ⟨g,m,none⟩=some (.int .i64 y):=hg5
      have k6:(wr.drewN nq).frozen? ⟨g,m,none⟩=false:=hg6
      clear hg3 hg4 hg5 hg6 HR HB HRS
      generalize wr.drewN nq=W2 at *
      go_wp2_with fail
      go_region
      all_goals
       have HRS3:Hid (IntRow ((W2.setCell ⟨g,m+1,none⟩ (.int .i64 y)).setCell ⟨g,m,none⟩ (.int .i64 x)).drew B (.slice (some ⟨g,0,none⟩) n cap) (swL l2 (m+1))):=HRS2.out
       have HBS3:Hid (Below B w ((W2.setCell ⟨g,m+1,none⟩ (.int .i64 y)).setCell ⟨g,m,none⟩ (.int .i64 x)).drew):=HBS2.out.drew
       go_wp2
       go_roundg (m+1)
       case measure=>omega
       case rel=>exact ⟨m,swL l2 (m+1),by first | rfl | go_num,by omega,by omega,HPS,HJ2,HRS3,HBS3⟩
     ·have hd:decide (x<y)=false:=decide_eq_false hxy
      have HS2:=hid (HJE.out hxy)
      rw [hd] at HLS
      clear HJS HJE
      go_wp2_with fail
      go_quiet (first | (go_at_call 292;exact Calls.quiet_of_same (HLS.out _)))
      rename Nat=>nq
      have HR2:Hid (IntRow (wr.drewN nq) B (.slice (some ⟨g,0,none⟩) n cap) l2):=HR.out
      have HB2:Hid (Below B w (wr.drewN nq)):=below_drewN' HB.out nq
      clear HR HB
      go_wp2
      go_roundg (n+1 - (i+1)+1)
      case measure=>omega
      case rel=>exact ⟨i+1,l2,by first | rfl | go_num,by omega,by omega,by omega,by omega,HP,HS2,HR2,HB2⟩
  ·have hiz:¬ (i:Int)<(n:Int):=by omega
   have HS2:Hid (SrtTo n l1):=fun p q h1 h2=>HS.out p q h1 (by omega)
   go_wp2
   first | go_end0 | (refine bodyPost_ret (v:=.tuple #[]) (by simp [results,Tryz.results286,go_sem]) rfl ?_)
   exact ⟨rfl,l1,HP.out,HS2.out,HR.out,HB.out⟩
theorem pdq_any (B:Nat) (A:Option Addr) (cap n:Nat) (l:List Int) (lim:Int) (w:World) (h:IntRow w B (.slice A n cap) l) (hl:l.length=n) (hn:n≤12) :
  Calls Tryz.prog 283 #[.slice A n cap,.int .i64 0,.int .i64 n,.int .i64 lim] w fun e w'=>e=.returned (.tuple #[])∧∃ l',l'.Perm l∧SrtTo n l'∧IntRow w' B (.slice A n cap) l'∧Below B w w':=by
 have HI:=hid (isort_any B A cap n l w h hl hn)
 have hws:IntKind.i64.wrap ((n:Int) - 0)=(n:Int):=by rw [IntKind.wrap_i64];omega
 have hn12:(n:Int)≤12:=by omega
 clear h hl
 go_enter Tryz.func283,Tryz.ntmps283
 go_wp2_with fail
 refine wp_loop_rounds 1 ?_
 rw [rounds_succ]
 go_wp2_with (go_at_call 286;refine HI.out.mono ?_;rintro e w1 ⟨rfl,l1,hp,hs,hr,hb⟩)
 first | go_end0 | go_ret | (refine bodyPost_ret (v:=.tuple #[]) (by simp [results,Tryz.results283,go_sem]) rfl ?_)
 exact ⟨rfl,l1,hp,hs,hr,hb⟩
theorem bitsLen_any (n:Nat) (w:World) (hn:n≤12):Calls Tryz.prog 284 #[.int .u64 n] w fun e w'=>(∃ v:Int,e=.returned (.int .i64 v))∧w=w':=by
 have h:n=0∨n=1∨n=2∨n=3∨n=4∨n=5∨n=6∨n=7∨n=8∨n=9∨n=10∨n=11∨n=12:=by omega
 have h64:∀ wx,Calls Tryz.prog 296 #[.int .u64 n] wx fun e w'=>(∃ v:Int,e=.returned (.int .i64 v))∧wx=w':=by
  intro wx
  rcases h with rfl | rfl | rfl | rfl | rfl | rfl | rfl | rfl | rfl | rfl | rfl | rfl | rfl <;>
  ·go_enter Tryz.func296,Tryz.ntmps296
   go_wp2
   go_ret
   exact ⟨⟨_,rfl⟩,rfl⟩
 have H64:=hid h64
 clear h h64
 go_enter Tryz.func284,Tryz.ntmps284
 go_wp2_with (go_at_call 296;refine (H64.out _).mono ?_;rintro e w' ⟨⟨v,rfl⟩,rfl⟩)
 go_ret
 exact ⟨⟨_,rfl⟩,rfl⟩
theorem sortI_any (B:Nat) (A:Option Addr) (cap n:Nat) (l:List Int) (w:World) (h:IntRow w B (.slice A n cap) l) (hl:l.length=n) (hn:n≤12) :
  Calls Tryz.prog 271 #[.slice A n cap] w fun e w'=>e=.returned (.tuple #[])∧∃ l',l'.Perm l∧SrtTo n l'∧IntRow w' B (.slice A n cap) l'∧Below B w w':=by
 have HI:=hid (fun lim=>pdq_any B A cap n l lim w h hl hn)
 have HL:=hid (fun wx=>bitsLen_any n wx hn)
 have hwu:IntKind.u64.wrap (n:Int)=(n:Int):=by unfold IntKind.wrap;simp [IntKind.bits,IntKind.signed];omega
 clear h hl
 go_enter Tryz.func271,Tryz.ntmps271
 go_wp2_with (first
  | (go_at_call 284;refine (HL.out _).mono ?_;rintro e w' ⟨⟨v,rfl⟩,rfl⟩)
  | (go_at_call 283;refine (HI.out _).mono ?_;rintro e w1 ⟨rfl,l1,hp,hs,hr,hb⟩))
 first | go_end0 | go_ret | (refine bodyPost_ret (v:=.tuple #[]) (by simp [results,Tryz.results271,go_sem]) rfl ?_)
 exact ⟨rfl,l1,hp,hs,hr,hb⟩
end
section
open Go.RowKit Plain
abbrev vi0 (x:Int):Value:=.int .i64 x
def SlO (w:World) (base:Nat) (v:Value) (l:List Int):Prop:=w.ownsRow base 2 1 v l.length (l.map vi0)
theorem SlO.at_ {w:World} {base cap:Nat} {A:Option Addr} {l:List Int} (h:SlO w base (.slice A l.length cap) l) {k:Nat} (hk:k<l.length) :
  ∃ g x,A=some ⟨g,0,none⟩∧base≤g∧g<w.heap.size∧l[k]? = some x∧w.cell? ⟨g,k,none⟩=some (vi0 x)∧w.frozen? ⟨g,k,none⟩=false:=by
 obtain ⟨g,cap',hv,hb,hlt⟩:=World.ownsRow.form h (by omega)
 have hA:A=some ⟨g,0,none⟩:=by injection hv
 have hc:cap=cap':=by injection hv
 subst hA
 subst hc
 refine ⟨g,l[k],rfl,hb,hlt,List.getElem?_eq_getElem hk, ?_,World.ownsRow.frozenAt h k⟩
 rw [World.ownsRow.cellAt h k (by omega)]
 simp [hk]
theorem SlO.push {wr w2 w:World} {base B:Nat} {v v2:Value} {out:List Int} {x:Int} (o:Obj) (h:SlO wr base v out)
  (hown:w2.ownsRow base 2 1 v2 (out.length+1) (out.map vi0++[vi0 x])) (hg:(wr.alloc o).grownBy w2 v.ownBlock) (hb:Below B w wr) (hB:B≤base) (hBs:B≤w.heap.size:=by exact Nat.le_refl _) :
  SlO w2 base v2 (out++[x])∧Below B w w2:=by
 refine ⟨?_, ?_⟩
 ·unfold SlO;simpa using hown
 ·refine (hb.alloc (by have:=hb.size;omega) _).grown hg (by have:=hb.size;simp;omega) (fun q hq=>by have:=(World.ownsRow.lt h q hq).1;omega)
theorem SlO.own {w:World} {base:Nat} {v:Value} {l:List Int} (h:SlO w base v l):w.ownsRow base 2 1 v l.length (l.map vi0):=h
theorem SlO.ints {w:World} {base cap:Nat} {A:Option Addr} {l:List Int} (h:SlO w base (.slice A l.length cap) l):Ints w A l:=fun hn=>by
 obtain ⟨g,x,rfl,_,hl,_,_⟩:=h.at_ hn
 refine ⟨g,0,rfl,hl,fun j x hx=>?_⟩
 have hj:j<l.length:=(List.getElem?_eq_some_iff.1 hx).1
 obtain ⟨g',x',e,_,_,hx',hc,_⟩:=h.at_ hj
 obtain rfl:g=g':=by simpa using e
 rw [hx] at hx'
 obtain rfl:x=x':=by simpa using hx'
 rw [Nat.zero_add];exact hc
def Put0Post (l:List Int) (a:Int) (w:World) (e:Ending) (w':World):Prop:=
 ∃ A cap,e=.returned (.slice A (insS a l).length cap)∧SlO w' w.heap.size (.slice A (insS a l).length cap) (insS a l)∧Below w.heap.size w w'
theorem put0_any (A:Option Addr) (cap:Nat) (l:List Int) (a:Int) (w:World) (hI:Ints w A l) (hl:l.length≤400) :
  Calls Tryz.prog 245 #[.slice A l.length cap,.int .i64 a] w (Put0Post l a w):=by
 obtain ⟨i0,hi,hz0,hz1,hz2⟩:=info_parts Tryz.infoI
 go_enter Tryz.func245,Tryz.ntmps245
 go_wp2
 go_loopw [5,6,7] (fun o dn i wr=>∃ (k:Nat) (Ao:Option Addr) (co:Nat) (d:Bool) (out:List Int),k≤l.length∧i=.int .i64 (k:Int)∧dn=.bool d∧o=.slice Ao out.length co∧out.length≤k+d.toNat∧Hid (SlO wr w.heap.size (.slice Ao out.length co) out)∧Hid (Below w.heap.size w wr)∧Hid (insS a l=if d then out++l.drop k else out++insS a (l.drop k))) (fun _ _ i _=>(l.length - intOf i).toNat)
 case atStart=>
  have h:=World.ownsRow_made (e:=2) (size:=1) w #[] 0 (Nat.le_refl _) (by unfold maxLen;omega) rfl
  refine ⟨0,some ⟨w.heap.size,0,none⟩,0,false,[],by omega,by go_num,rfl,rfl,by simp, ?_,by show Below _ _ _;go_grown,by show _=_;simp⟩
  show SlO _ _ _ _
  unfold SlO
  exact h
 case round=>
  obtain ⟨k,Ao,co,d,out,hk,rfl,rfl,rfl,hol,HS,HB,HE⟩:=hrel
  by_cases hlt:k<l.length
  ·obtain ⟨b,o,x,rfl,hx,hc⟩:=(hI.below HB.out).at_ hlt
   have HX:=hid hx;clear hx
   have hol1:out.length≤k+1:=by cases d<;>simp at hol<;>omega
   have HD:Hid (l.drop k=x :: l.drop (k+1)):=by
    have hx:=HX.out
    rw [List.getElem?_eq_getElem hlt] at hx
    show _=_;rw [List.drop_eq_getElem_cons hlt];congr 1;simpa using hx
   cases d
   ·by_cases h1:x<a
    ·have h1':¬ (a≤x):=by omega
     go_wp2_with (at_builtin;refine wpList_append_own _ rfl _ _ 28 rfl w.heap.size 2 i0 (.int .i64 0) 1 8 Tryz.underlying28 hi hz0 hz1 hz2 rfl (by decide) _ out.length _ rfl (HS.out.own.alloc _) ⟨wr.heap.size,0,none⟩ 1 1 [vi0 x] rfl rfl ?ca1 ?ca2 ?ca3 ?ca4 ?ca5 ?_)
     try (case ca1=>exact cell_one_new _ _ _)
     try (case ca2=>first | rfl | (intro u hu;simp at hu;subst hu;rfl))
     case ca3=>unfold maxLen;omega
     case ca4=>omega
     case ca5=>have:=HB.out.size;simp;try omega
     ·intro v2 w2 hown hg _
      obtain ⟨hS2,hB2⟩:=SlO.push _ HS.out hown hg HB.out (Nat.le_refl _)
      obtain ⟨g2,cp2,rfl,_,_⟩:=World.ownsRow.form hown (by omega)
      have HS2:=hid hS2
      have HB2:=hid hB2
      clear hown hg hS2 hB2 HS HB hc
      have H1:=hid h1;clear h1 h1'
      go_wp2
      go_roundw
      case rel=>exact ⟨k+1,some ⟨g2,0,none⟩,cp2,false,out++[x],by omega,by go_num,rfl,by simp,by simp<;>(try simp at hol)<;>omega,by simpa using HS2,HB2,by show _=_;rw [HE.out,HD.out];simp [insS,H1.out]⟩
      case measure=>simp [intOf];omega
    ·by_cases h2:x=a
     ·subst h2
      go_wp2_with (at_builtin;refine wpList_append_own _ rfl _ _ 28 rfl w.heap.size 2 i0 (.int .i64 0) 1 8 Tryz.underlying28 hi hz0 hz1 hz2 rfl (by decide) _ out.length _ rfl (HS.out.own.alloc _) ⟨wr.heap.size,0,none⟩ 1 1 [vi0 x] rfl rfl ?cb1 ?cb2 ?cb3 ?cb4 ?cb5 ?_)
      try (case cb1=>exact cell_one_new _ _ _)
      try (case cb2=>first | rfl | (intro u hu;simp at hu;subst hu;rfl))
      case cb3=>unfold maxLen;omega
      case cb4=>omega
      case cb5=>have:=HB.out.size;simp;try omega
      ·intro v2 w2 hown hg _
       obtain ⟨hS2,hB2⟩:=SlO.push _ HS.out hown hg HB.out (Nat.le_refl _)
       obtain ⟨g2,cp2,rfl,_,_⟩:=World.ownsRow.form hown (by omega)
       have HS2:=hid hS2
       have HB2:=hid hB2
       clear hown hg hS2 hB2 HS HB hc
       go_wp2
       go_roundw
       case rel=>exact ⟨k+1,some ⟨g2,0,none⟩,cp2,true,out++[x],by omega,by go_num,rfl,by simp,by simp<;>(try simp at hol)<;>omega,by simpa using HS2,HB2,by show _=_;rw [HE.out,HD.out];simp [insS]⟩
       case measure=>simp [intOf];omega
     ·have h3:a<x:=by omega
      have h4:a≤x:=by omega
      simp only [Bool.toNat_false,Nat.add_zero] at hol
      have HP:Hid (insS a (x :: l.drop (k+1))=a :: x :: l.drop (k+1)):=by show _=_;simp [insS,h1,h2]
      clear h1 h2
      go_wp2_with (at_builtin;refine wpList_append_own _ rfl _ _ 28 rfl w.heap.size 2 i0 (.int .i64 0) 1 8 Tryz.underlying28 hi hz0 hz1 hz2 rfl (by decide) _ out.length _ rfl (HS.out.own.alloc _) ⟨wr.heap.size,0,none⟩ 1 1 [vi0 a] rfl rfl ?cc1 ?cc2 ?cc3 ?cc4 ?cc5 ?_)
      try (case cc1=>exact cell_one_new _ _ _)
      try (case cc2=>first | rfl | (intro u hu;simp at hu;subst hu;rfl))
      case cc3=>unfold maxLen;omega
      case cc4=>omega
      case cc5=>have:=HB.out.size;simp;try omega
      ·intro v2 w2 hown hg _
       obtain ⟨hS2,hB2⟩:=SlO.push _ HS.out hown hg HB.out (Nat.le_refl _)
       obtain ⟨g2,cp2,rfl,_,_⟩:=World.ownsRow.form hown (by omega)
       obtain ⟨bb,oo,xx,ee,hxx,hcc⟩:=(hI.below hB2).at_ hlt
       obtain ⟨rfl,rfl⟩:b=bb∧o=oo:=by simpa using ee
       have hq:=HX.out
       rw [hxx] at hq
       obtain rfl:xx=x:=by simpa using hq
       obtain ⟨out2,ho2,hl2⟩:∃ out2,out2=out++[a]∧out2.length=out.length+1:=⟨_,rfl,by simp⟩
       have HO2:=hid ho2
       rw [←ho2] at hS2
       rw [←hl2] at hS2 ⊢
       have HL2:=hid hl2
       have hol2:out2.length≤k+1:=by omega
       clear hown hg HS HB hc hq hxx ee ho2 hl2
       have HS:=hid hS2
       have HB:=hid hB2
       clear hS2 hB2
       go_wp2_with (at_builtin;refine wpList_append_own _ rfl _ _ 28 rfl w.heap.size 2 i0 (.int .i64 0) 1 8 Tryz.underlying28 hi hz0 hz1 hz2 rfl (by decide) _ out2.length _ rfl (HS.out.own.alloc _) ⟨w2.heap.size,0,none⟩ 1 1 [vi0 xx] rfl rfl ?cd1 ?cd2 ?cd3 ?cd4 ?cd5 ?_)
       try (case cd1=>exact cell_one_new _ _ _)
       try (case cd2=>first | rfl | (intro u hu;simp at hu;subst hu;rfl))
       case cd3=>unfold maxLen;omega
       case cd4=>omega
       case cd5=>have:=HB.out.size;simp;try omega
       ·intro v3 w3 hown hg _
        obtain ⟨hS2,hB2⟩:=SlO.push _ HS.out hown hg HB.out (Nat.le_refl _)
        obtain ⟨g2,cp2,rfl,_,_⟩:=World.ownsRow.form hown (by omega)
        have HS2:=hid hS2
        have HB2:=hid hB2
        clear hown hg hS2 hB2 HS HB hcc
        go_wp2
        go_roundw
        case rel=>exact ⟨k+1,some ⟨g2,0,none⟩,cp2,true,out2++[xx],by omega,by go_num,rfl,by simp,by simp<;>(try simp at hol)<;>omega,by simpa using HS2,HB2,by show _=_;rw [HE.out,HD.out];rw [HP.out,HO2.out];simp⟩
        case measure=>simp [intOf];omega
   ·go_wp2_with (at_builtin;refine wpList_append_own _ rfl _ _ 28 rfl w.heap.size 2 i0 (.int .i64 0) 1 8 Tryz.underlying28 hi hz0 hz1 hz2 rfl (by decide) _ out.length _ rfl (HS.out.own.alloc _) ⟨wr.heap.size,0,none⟩ 1 1 [vi0 x] rfl rfl ?ce1 ?ce2 ?ce3 ?ce4 ?ce5 ?_)
    try (case ce1=>exact cell_one_new _ _ _)
    try (case ce2=>first | rfl | (intro u hu;simp at hu;subst hu;rfl))
    case ce3=>unfold maxLen;omega
    case ce4=>omega
    case ce5=>have:=HB.out.size;simp;try omega
    ·intro v2 w2 hown hg _
     obtain ⟨hS2,hB2⟩:=SlO.push _ HS.out hown hg HB.out (Nat.le_refl _)
     obtain ⟨g2,cp2,rfl,_,_⟩:=World.ownsRow.form hown (by omega)
     have HS2:=hid hS2
     have HB2:=hid hB2
     clear hown hg hS2 hB2 HS HB hc
     go_wp2
     go_roundw
     case rel=>exact ⟨k+1,some ⟨g2,0,none⟩,cp2,true,out++[x],by omega,by go_num,rfl,by simp,by simp<;>(try simp at hol)<;>omega,by simpa using HS2,HB2,by show _=_;rw [HE.out,HD.out];simp⟩
     case measure=>simp [intOf];omega
  ·obtain rfl:k=l.length:=by omega
   have hol1:out.length≤l.length+1:=by cases d<;>simp at hol<;>omega
   cases d
   ·go_wp2_with (at_builtin;refine wpList_append_own _ rfl _ _ 28 rfl w.heap.size 2 i0 (.int .i64 0) 1 8 Tryz.underlying28 hi hz0 hz1 hz2 rfl (by decide) _ out.length _ rfl (HS.out.own.alloc _) ⟨wr.heap.size,0,none⟩ 1 1 [vi0 a] rfl rfl ?cf1 ?cf2 ?cf3 ?cf4 ?cf5 ?_)
    try (case cf1=>exact cell_one_new _ _ _)
    try (case cf2=>first | rfl | (intro u hu;simp at hu;subst hu;rfl))
    case cf3=>unfold maxLen;omega
    case cf4=>omega
    case cf5=>have:=HB.out.size;simp;try omega
    ·intro v2 w2 hown hg _
     obtain ⟨hS2,hB2⟩:=SlO.push _ HS.out hown hg HB.out (Nat.le_refl _)
     obtain ⟨g2,cp2,rfl,_,_⟩:=World.ownsRow.form hown (by omega)
     have HS2:=hid hS2
     have HB2:=hid hB2
     clear hown hg hS2 hB2 HS HB
     go_wp2
     go_ret
     have hF:insS a l=out++[a]:=by rw [HE.out];simp [insS]
     rw [Put0Post,hF]
     have e:(out++[a]).length=out.length+1:=by simp
     rw [e]
     exact ⟨_,_,rfl,HS2.out,HB2.out⟩
   ·go_wp2
    go_ret
    have hF:insS a l=out:=by rw [HE.out];simp
    rw [Put0Post,hF]
    exact ⟨_,_,rfl,HS.out,HB.out⟩
end
section
open Go
section
variable {P:Program} {l:List Oper} {Q:Exit→Act→World→Prop} {S:World→Prop} {n:Nat}
theorem RegE.takeL {i:Nat} {oi:Oper} {v:Value} {fuel:Nat} {listed:Array Bool} {a:Act} {w:World} (hB:sinkOk l.toArray n=true) (hi:l[i]? = some oi) (hin:i<n)
  (hf:Region.free .any l.toArray listed i=true) (hr:(Region.ready .any l.toArray listed).contains i=true)
  (hQ:∀ c a w,Q (.panic c) (a.put oi.dst v) w→Q (.panic c) a w) (hy:YieldsIf P l.toArray S oi v a) (hS:S w)
  (h:RegE P l.toArray Q S n fuel (listed.setIfInBounds i true) (a.put oi.dst v) w):RegE P l.toArray Q S n (fuel+1) listed a w:=
 RegE.take hB (by rw [List.getElem?_toArray];exact hi) hin hf hr hQ hy hS h
theorem RegE.stepL {i:Nat} {oi:Oper} {fuel:Nat} {listed:Array Bool} {a:Act} {w:World} (hi:l[i]? = some oi) (hin:i<n) (hr:Region.ready .any l.toArray listed=[i])
  (h:∀ K':Act→World→Prop,Shut (∀ a w,S w→(S w→RegE P l.toArray Q S n fuel (listed.setIfInBounds i true) a w)→K' a w)→if Region.wanted oi (yielded l.toArray a.tmps)=true then Oper.wp P oi a w K' Q else K' (a.put oi.dst undef) w) :
  RegE P l.toArray Q S n (fuel+1) listed a w:=RegE.step (by rw [List.getElem?_toArray];exact hi) hin hr h
theorem RegE.lastL {oi:Oper} {fuel:Nat} {listed:Array Bool} {a:Act} {w:World} (hi:l[n]? = some oi) (hr:Region.ready .any l.toArray listed=[n]) (hd:Region.ready .any l.toArray (listed.setIfInBounds n true)=[])
  (h:∀ K':Act→World→Prop,Shut (∀ a w,Q .normal a w→K' a w)→if Region.wanted oi (yielded l.toArray a.tmps)=true then Oper.wp P oi a w K' Q else K' (a.put oi.dst undef) w) :
  RegE P l.toArray Q S n (fuel+1) listed a w:=RegE.last (by rw [List.getElem?_toArray];exact hi) hr hd h
end
end
section
open Go.RowKit Plain
def PlainSC (ks:Es):Prop:=∀ (k n p c:Int) (b o B:Nat) (w:World),ElAt w B k n p c ks b o→B≤w.heap.size→ks.size≤1048576 →
 Calls Tryz.prog 195 #[ptr b o] w fun e w'=>e=.returned (.bool (Nd.plain ⟨k,n,p,c,ks⟩))∧Below w.heap.size w w'
theorem plainS_any:∀ (m:Nat) (ks:Es),ks.size<m→PlainSC ks:=by
 intro m
 induction m with
 | zero=>intro es h;omega
 | succ m ih=>
 intro ks hm k n p c b o B w hE hB hsz0
 have IH:=hid ih;clear ih
 obtain ⟨hbB,h0,h1,h2,h3,K,cap,b',o',h4,hc,hcm,hK,hks⟩:=hE
 have HKS:=hid hks;clear hks
 have hcm':cap≤9223372036854775807:=by unfold maxLen at hcm;omega
 have hbw:b<w.heap.size:=by omega
 have hls:=Es.len_le_size ks
 cases hin:inR k 1 5
 case false=>
  by_cases h7:k=7
  ·subst h7
   have HV:Hid (Nd.plain ⟨7,n,p,c,ks⟩=plainL ks):=by show _=_;simp [Nd.plain,plainK]
   rw [HV.out]
   have HIN:=hid (fun wx=>in_bq false 7 1 5 hin wx)
   have h77:((7:Int) != 7)=false:=rfl
   clear hin
   go_enter Tryz.func195,Tryz.ntmps195
   go_wp2_with (go_at_call 106;refine (HIN.out _).mono ?_;rintro e w' ⟨rfl,hww⟩;obtain rfl:=hww.symm)
   go_loopw [3] (fun i wr=>∃ (j:Nat) (es':Es),i=.int .i64 (j:Int)∧j+es'.len=ks.len∧Hid (plainL ks=plainL es')∧Hid (es'.size≤ks.size)∧Hid (ExsAt wr B es' b' (o'+j*5))∧Hid (Below w.heap.size w wr)) (fun i _=>ks.len - (intOf i).toNat)
   case atStart=>exact ⟨0,ks,by go_num,by omega,rfl,Nat.le_refl _,by show ExsAt _ _ _ _ _;rw [Nat.zero_mul,Nat.add_zero];exact HKS.out,Below.refl _ _⟩
   case round=>
    obtain ⟨j,es',rfl,hj,hy,hsz,HE,HB⟩:=hrel
    have h4':wr.cell? ⟨b,o+4,none⟩=some (.slice K ks.len cap):=(HB.out.cell (p:=⟨b,_,none⟩) hbw).trans h4
    cases es' with
    | nil=>
     simp only [Es.len] at hj
     go_wp2
     go_ret
     exact ⟨by rw [hy.out];rfl,HB.out⟩
    | cons kk n' p' c' ks' r=>
     simp only [Es.len] at hj
     have hK:=hK (by omega)
     subst hK
     obtain ⟨hel,hr⟩:=HE.out
     have HEL:=hid hel
     have HR:=hid hr
     have hrs:Hid (r.size≤ks.size∧ks'.size<ks.size):=by
      have:=hsz.out
      simp only [Es.size] at this
      exact ⟨by omega,by omega⟩
     clear hel hr HE
     have HC:=hid (IH.out ks' (by have:=hrs.out;omega) kk n' p' c' b' (o'+j*5) B wr HEL.out (by have:=HB.out.size;omega) (by have:=hrs.out;omega))
     have HY:Hid (plainL ks=(Nd.plain ⟨kk,n',p',c',ks'⟩&&plainL r)):=hy.out
     cases hpl:Nd.plain ⟨kk,n',p',c',ks'⟩
     ·rw [hpl] at HC HY
      have HY2:Hid (plainL ks=false):=by show _=_;rw [HY.out];rfl
      clear hpl
      go_wp2_with fail
      refine HC.out.mono ?_;rintro e w1 ⟨rfl,hb1⟩
      have HB1:=hid (bnext HB.out hb1)
      clear hb1
      go_wp2
      go_ret
      exact ⟨by rw [HY2.out];rfl,HB1.out⟩
     ·rw [hpl] at HC HY
      have HY2:Hid (plainL ks=plainL r):=by show _=_;rw [HY.out];rfl
      clear hpl
      go_wp2_with fail
      refine HC.out.mono ?_;rintro e w1 ⟨rfl,hb1⟩
      have HE1:Hid (ExsAt w1 B r b' (o'+(j+1)*5)):=by
       have:=HR.out.below (hb1.mono (by have:=HB.out.size;omega))
       rwa [show o'+j*5+5=o'+(j+1)*5 by omega] at this
      have HB1:=hid (bnext HB.out hb1)
      clear hb1
      go_wp2
      go_roundw
      case rel=>exact ⟨j+1,r,by go_num,by omega,HY2,hrs.out.1,HE1,HB1⟩
      case measure=>simp [intOf];omega
  ·have HV:Hid (Nd.plain ⟨k,n,p,c,ks⟩=false):=by show _=_;simp [Nd.plain,plainK,hin,h7]
   rw [HV.out]
   have HIN:=hid (fun wx=>in_bq false k 1 5 hin wx)
   have h77:(k != 7)=true:=by simp [h7]
   clear hin
   go_enter Tryz.func195,Tryz.ntmps195
   go_wp2_with (go_at_call 106;refine (HIN.out _).mono ?_;rintro e w' ⟨rfl,hww⟩;obtain rfl:=hww.symm)
   go_ret
   exact ⟨rfl,Below.refl _ _⟩
 case true=>
  have HV:Hid (Nd.plain ⟨k,n,p,c,ks⟩=plainL ks):=by show _=_;simp [Nd.plain,plainK,hin]
  rw [HV.out]
  have HIN:=hid (fun wx=>in_bq true k 1 5 hin wx)
  clear hin
  go_enter Tryz.func195,Tryz.ntmps195
  go_wp2_with (go_at_call 106;refine (HIN.out _).mono ?_;rintro e w' ⟨rfl,hww⟩;obtain rfl:=hww.symm)
  go_loopw [3] (fun i wr=>∃ (j:Nat) (es':Es),i=.int .i64 (j:Int)∧j+es'.len=ks.len∧Hid (plainL ks=plainL es')∧Hid (es'.size≤ks.size)∧Hid (ExsAt wr B es' b' (o'+j*5))∧Hid (Below w.heap.size w wr)) (fun i _=>ks.len - (intOf i).toNat)
  case atStart=>exact ⟨0,ks,by go_num,by omega,rfl,Nat.le_refl _,by show ExsAt _ _ _ _ _;rw [Nat.zero_mul,Nat.add_zero];exact HKS.out,Below.refl _ _⟩
  case round=>
   obtain ⟨j,es',rfl,hj,hy,hsz,HE,HB⟩:=hrel
   have h4':wr.cell? ⟨b,o+4,none⟩=some (.slice K ks.len cap):=(HB.out.cell (p:=⟨b,_,none⟩) hbw).trans h4
   cases es' with
   | nil=>
    simp only [Es.len] at hj
    go_wp2
    go_ret
    exact ⟨by rw [hy.out];rfl,HB.out⟩
   | cons kk n' p' c' ks' r=>
    simp only [Es.len] at hj
    have hK:=hK (by omega)
    subst hK
    obtain ⟨hel,hr⟩:=HE.out
    have HEL:=hid hel
    have HR:=hid hr
    have hrs:Hid (r.size≤ks.size∧ks'.size<ks.size):=by
     have:=hsz.out
     simp only [Es.size] at this
     exact ⟨by omega,by omega⟩
    clear hel hr HE
    have HC:=hid (IH.out ks' (by have:=hrs.out;omega) kk n' p' c' b' (o'+j*5) B wr HEL.out (by have:=HB.out.size;omega) (by have:=hrs.out;omega))
    have HY:Hid (plainL ks=(Nd.plain ⟨kk,n',p',c',ks'⟩&&plainL r)):=hy.out
    cases hpl:Nd.plain ⟨kk,n',p',c',ks'⟩
    ·rw [hpl] at HC HY
     have HY2:Hid (plainL ks=false):=by show _=_;rw [HY.out];rfl
     clear hpl
     go_wp2_with fail
     refine HC.out.mono ?_;rintro e w1 ⟨rfl,hb1⟩
     have HB1:=hid (bnext HB.out hb1)
     clear hb1
     go_wp2
     go_ret
     exact ⟨by rw [HY2.out];rfl,HB1.out⟩
    ·rw [hpl] at HC HY
     have HY2:Hid (plainL ks=plainL r):=by show _=_;rw [HY.out];rfl
     clear hpl
     go_wp2_with fail
     refine HC.out.mono ?_;rintro e w1 ⟨rfl,hb1⟩
     have HE1:Hid (ExsAt w1 B r b' (o'+(j+1)*5)):=by
      have:=HR.out.below (hb1.mono (by have:=HB.out.size;omega))
      rwa [show o'+j*5+5=o'+(j+1)*5 by omega] at this
     have HB1:=hid (bnext HB.out hb1)
     clear hb1
     go_wp2
     go_roundw
     case rel=>exact ⟨j+1,r,by go_num,by omega,HY2,hrs.out.1,HE1,HB1⟩
     case measure=>simp [intOf];omega
theorem hasS_any (A:Option Addr) (cap:Nat) (l:List Int) (x:Int) (w:World) (hA:Ints w A l) (hl:l.length≤1000000) :
  Calls Tryz.prog 122 #[.slice A l.length cap,.int .i64 x] w fun e w'=>e=.returned (.bool (l.contains x))∧w=w':=by
 have HA:=hid hA
 obtain ⟨rr,hrr⟩:∃ rr,rr=l.contains x:=⟨_,rfl⟩
 rw [←hrr]
 have HRR:=hid hrr
 clear hA hrr
 go_enter Tryz.func122,Tryz.ntmps122
 go_wp2_with fail
 go_loopg [5] (l.length+1) (fun kx s3 wr=>∃ (i:Nat),s3=.int .i64 (i:Int)∧i≤l.length∧l.length - i<kx∧Hid (l.contains x=(l.drop i).contains x)∧w=wr)
 case atStart=>exact ⟨0,rfl,by omega,by omega,by show _=_;rw [List.drop_zero],rfl⟩
 case round=>
  obtain ⟨i,rfl,hin,hkx,HD,rfl⟩:=hrel
  by_cases hlt:i<l.length
  ·have hiz:(i:Int)<(l.length:Int):=by omega
   obtain ⟨b,o,rfl,hb,hc⟩:=HA.out.cfAt (by omega)
   have e0:=hc i hlt
   have HX:Hid (l.drop i=cf l i :: l.drop (i+1)):=by
    show _=_;rw [List.drop_eq_getElem_cons hlt];congr 1;simp [cf,List.getD,hlt]
   obtain ⟨y,hy⟩:∃ y,y=cf l i:=⟨_,rfl⟩
   rw [←hy] at e0 HX
   clear hc hy
   by_cases hxy:y=x
   ·subst hxy
    have HV:Hid (l.contains y=true):=by show _=_;rw [HD.out,HX.out];simp
    go_wp2
    go_ret
    exact ⟨by rw [HRR.out.trans HV.out];rfl,rfl⟩
   ·have HV:Hid (l.contains x=(l.drop (i+1)).contains x):=by show _=_;rw [HD.out,HX.out];simp [Ne.symm hxy]
    have hxb:(y==x)=false:=beq_eq_false_iff_ne.2 hxy
    go_wp2
    go_roundg (l.length - (i+1)+1)
    case measure=>omega
    case rel=>exact ⟨i+1,by first | rfl | go_num,by omega,by omega,HV,rfl⟩
  ·obtain rfl:i=l.length:=by omega
   have hiz:¬ (l.length:Int)<(l.length:Int):=by omega
   have HV:Hid (l.contains x=false):=by show _=_;rw [HD.out,List.drop_length];rfl
   go_wp2
   go_ret
   exact ⟨by rw [HRR.out.trans HV.out];rfl,rfl⟩
end
end Go.Proofs.YtgfkglhelfkpoaaGreat
